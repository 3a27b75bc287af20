/- The functions' evaluated forms, each a proved summary. Conditions: none. -/
import Derived.Test.YtmnbmponjhglcaaPcF1
namespace Go.Proofs.Ytmnbmponjhglcaa.Pc
open Go Go.RowKit Go.Proofs Vm
set_option linter.unusedVariables false
set_option linter.unusedSimpArgs false
set_option maxRecDepth 100000
/-! spec.l9Fault -/
def F_spec_l9Fault_B0 {ρ : Type} (fu : Nat) (t0_0 : (Sl S_impl_Node)) (t0_1 : (Sl S_impl_Mail)) (t0_2 : (Sl S_impl_Won)) (t0_3 : (Sl S_impl_Seal)) (k0 : Int → Option ρ) (k1 : Option ρ) (k2 : Option ρ) (r3_4 : Int) (go : Int → Option ρ) : Option ρ :=
  (bif (decide (r3_4 < ((t0_0.n : Nat) : Int))) then ((bif (decide (0 ≤ r3_4) && decide ((Int.toNat r3_4) < t0_0.n)) then some () else none : Option Unit).bind fun _ =>
    ((F_spec_l8Fault fu (t0_0.f (Int.toNat r3_4))).bind fun y42 => (bif (y42 != 0) then (k0 y42) else ((((bif (decide (0 ≤ r3_4) && decide ((Int.toNat r3_4) < t0_0.n)) then some () else
    none : Option Unit).bind fun _ => (bif ((t0_0.f (Int.toNat r3_4)).Id != r3_4) then (some true) else ((bif (decide (0 ≤ r3_4) && decide ((Int.toNat r3_4) < t0_0.n)) then some () else
    none : Option Unit).bind fun _ => (some ((t0_0.f (Int.toNat r3_4)).Peers != ((t0_0.n : Nat) : Int)))))) : Option Bool).bind fun m43 => (bif m43 then k1 else (go (IntKind.wrap .i64 (r3_4 + 1)))))))) else
    k2)
def F_spec_l9Fault_B2 {ρ : Type} (fu : Nat) (t0_0 : (Sl S_impl_Node)) (t0_1 : (Sl S_impl_Mail)) (t0_2 : (Sl S_impl_Won)) (t0_3 : (Sl S_impl_Seal)) (k0 : Option ρ) (k1 : Int → Option ρ) (k2 : Option ρ) (a5_4 : Int) (go : Int → Option ρ) : Option ρ :=
  (bif (decide (a5_4 < ((t0_1.n : Nat) : Int))) then ((bif (decide (0 ≤ a5_4) && decide ((Int.toNat a5_4) < t0_1.n)) then some () else none : Option Unit).bind fun _ =>
    ((F_spec_l9Place fu (⟨t0_0, t0_1, t0_2, t0_3⟩ : S_impl_Cluster) (t0_1.f (Int.toNat a5_4)).To).bind fun y45 => (bif (!y45) then k0 else ((bif (decide (0 ≤ a5_4) && decide ((Int.toNat a5_4) < t0_1.n)) then
    some () else none : Option Unit).bind fun _ => ((bif (decide (0 ≤ (t0_1.f (Int.toNat a5_4)).To) && decide ((Int.toNat (t0_1.f (Int.toNat a5_4)).To) < t0_0.n)) then some () else
    none : Option Unit).bind fun _ => ((bif (decide (0 ≤ a5_4) && decide ((Int.toNat a5_4) < t0_1.n)) then some () else none : Option Unit).bind fun _ => ((F_spec_l8Mail fu (t0_0.f (Int.toNat (t0_1.f (Int.toNat a5_4)).To)) (t0_1.f (Int.toNat a5_4))).bind fun y46 =>
    (bif (y46 != 0) then (k1 y46) else (go (IntKind.wrap .i64 (a5_4 + 1))))))))))) else k2)
def F_spec_l9Fault_B4 {ρ : Type} (fu : Nat) (t0_0 : (Sl S_impl_Node)) (t0_1 : (Sl S_impl_Mail)) (t0_2 : (Sl S_impl_Won)) (t0_3 : (Sl S_impl_Seal)) (k0 : Option ρ) (k1 : Option ρ) (t7_4 : Int) (go : Int → Option ρ) : Option ρ :=
  (bif (decide (t7_4 < ((t0_2.n : Nat) : Int))) then ((((bif (decide (0 ≤ t7_4) && decide ((Int.toNat t7_4) < t0_2.n)) then some () else none : Option Unit).bind fun _ =>
    ((F_spec_l1In fu (t0_2.f (Int.toNat t7_4)).Term 1 100000).bind fun y49 => (bif (!y49) then (some true) else ((bif (decide (0 ≤ t7_4) && decide ((Int.toNat t7_4) < t0_2.n)) then
    some () else none : Option Unit).bind fun _ => ((F_spec_l9Place fu (⟨t0_0, t0_1, t0_2, t0_3⟩ : S_impl_Cluster) (t0_2.f (Int.toNat t7_4)).Node).bind fun y50 => (some (!y50))))))) : Option Bool).bind fun m51 =>
    (bif m51 then k0 else (go (IntKind.wrap .i64 (t7_4 + 1))))) else k1)
def F_spec_l9Fault_B6 {ρ : Type} (fu : Nat) (t0_0 : (Sl S_impl_Node)) (t0_1 : (Sl S_impl_Mail)) (t0_2 : (Sl S_impl_Won)) (t0_3 : (Sl S_impl_Seal)) (k0 : Option ρ) (k1 : Int → Option ρ) (k2 : Option ρ) (t8_4 : Int) (go : Int → Option ρ) : Option ρ :=
  (bif (decide (t8_4 < ((t0_3.n : Nat) : Int))) then ((bif (decide (0 ≤ t8_4) && decide ((Int.toNat t8_4) < t0_3.n)) then some () else none : Option Unit).bind fun _ =>
    ((F_spec_l1In fu (t0_3.f (Int.toNat t8_4)).Term 1 100000).bind fun y52 => (bif (!y52) then k0 else ((bif (decide (0 ≤ t8_4) && decide ((Int.toNat t8_4) < t0_3.n)) then some () else
    none : Option Unit).bind fun _ => ((F_spec_EntryFault fu (t0_3.f (Int.toNat t8_4)).Entry).bind fun y53 => (bif (y53 != 0) then (k1 y53) else (go (IntKind.wrap .i64 (t8_4 + 1))))))))) else
    k2)
def F_spec_l9Fault (fu : Nat) (t_0 : S_impl_Cluster) : Option (Int) :=
  (((bif (decide (((t_0.Nodes.n : Nat) : Int) < 1)) then (some true) else (bif (decide (((t_0.Nodes.n : Nat) : Int) > 5)) then (some true) else (some (decide (((t_0.Mails.n : Nat) : Int) > 80))))) : Option Bool).bind fun m41 =>
    (bif m41 then (some 2) else (L (fun w0 go0 => F_spec_l9Fault_B0 fu t_0.Nodes t_0.Mails t_0.Wins t_0.Seals (fun z44 => (some z44)) (some 1) (L (fun w2 go2 => F_spec_l9Fault_B2 fu t_0.Nodes t_0.Mails t_0.Wins t_0.Seals (some 3) (fun z47 =>
    (some z47)) (((bif (decide (((t_0.Wins.n : Nat) : Int) > 400)) then (some true) else (some (decide (((t_0.Seals.n : Nat) : Int) > 40)))) : Option Bool).bind fun m48 => (bif m48 then
    (some 2) else (L (fun w4 go4 => F_spec_l9Fault_B4 fu t_0.Nodes t_0.Mails t_0.Wins t_0.Seals (some 3) (L (fun w6 go6 => F_spec_l9Fault_B6 fu t_0.Nodes t_0.Mails t_0.Wins t_0.Seals (some 3) (fun z54 =>
    (some z54)) (some 0) w6 go6) fu (0 : Int)) w4 go4) fu (0 : Int)))) w2 go2) fu (0 : Int)) w0 go0) fu (0 : Int))))
def pcf_a32 (fu : Nat) (f : Nat) (xs : List (D RT den)) : Option (Out RT den) := match f with | 65 => S_a13 fu xs | 104 => S_a28 fu xs | 105 => S_a29 fu xs | 106 => S_a31 fu xs | 107 => S_a23 fu xs | _ => none
def pc_a32 (fu : Nat) : Pc RT den := ⟨pcf_a32 fu, fun _ => false, fun _ => false, pcd0, pcx0⟩
def msk_a32 (b : Nat) : List Nat := match b with | 0 => [1, 2, 4, 5, 6, 7, 8, 9, 10, 11, 12, 13, 14, 15, 16, 17, 18, 19, 20, 21, 22, 23, 24, 25, 26, 27, 28, 29, 30, 31, 32, 33, 34, 35, 36, 37, 38, 39, 40, 41, 42, 43, 44, 45, 46, 47, 48, 49, 50, 51, 52, 53, 54, 55, 56, 57, 58, 59, 60, 61, 62, 63, 64, 65, 66, 67, 68, 69, 70, 71, 72, 73, 74, 75, 76, 77, 78, 79, 80, 81, 82, 83, 84, 85, 86, 87, 88, 89, 90, 91, 92, 93, 94, 95, 96, 97, 98, 99, 100, 101, 102, 103, 104, 105, 106, 107, 108, 109, 110, 111, 112, 113, 114, 115, 116, 117, 118, 119, 120, 121, 122, 123, 124, 125, 126, 127, 128, 129, 130, 131, 132, 133, 134, 135, 136, 137, 138, 139, 140, 141, 142, 143, 144, 145, 146, 147, 148, 149, 150, 151, 152, 153, 154, 155, 156, 157, 158, 159, 160, 161, 162, 163, 164, 165, 166, 167, 168, 169, 170, 171, 172, 173, 174, 175, 176, 177, 178, 179, 180, 181, 182, 183, 184, 185, 186, 187, 188, 189, 190, 191, 192, 193, 194, 195, 196, 197] | 100000 => [1, 3, 4, 5, 6, 7, 8, 9, 10, 11, 12, 13, 14, 15, 16, 17, 18, 19, 20, 21, 22, 23, 24, 25, 26, 27, 28, 29, 30, 31, 32, 33, 34, 35, 36, 37, 38, 39, 40, 41, 42, 43, 44, 45, 46, 47, 48, 49, 50, 51, 52, 53, 54, 55, 56, 57, 58, 59, 60, 61, 62, 63, 64, 65, 66, 67, 68, 69, 70, 71, 72, 73, 74, 75, 76, 77, 78, 79, 80, 81, 82, 83, 84, 85, 86, 87, 88, 89, 90, 91, 92, 93, 94, 95, 96, 97, 98, 99, 100, 101, 102, 103, 104, 105, 106, 107, 108, 109, 110, 111, 112, 113, 114, 115, 116, 117, 118, 119, 120, 121, 122, 123, 124, 125, 126, 127, 128, 129, 130, 131, 132, 133, 134, 135, 136, 137, 138, 139, 140, 141, 142, 143, 144, 145, 146, 147, 148, 149, 150, 151, 152, 153, 154, 155, 156, 157, 158, 159, 160, 161, 162, 163, 164, 165, 166, 167, 168, 169, 170, 171, 172, 173, 174, 175, 176, 177, 178, 179, 180, 181, 182, 183, 184, 185, 186, 187, 188, 189, 190, 191, 192, 193, 194, 195, 196, 197] | 2 => [1, 2, 3, 4, 6, 7, 8, 9, 10, 11, 12, 13, 14, 15, 16, 17, 18, 19, 20, 21, 22, 23, 24, 25, 26, 27, 28, 29, 30, 31, 32, 33, 34, 35, 36, 37, 38, 39, 40, 41, 42, 43, 44, 45, 46, 47, 48, 49, 50, 51, 52, 53, 54, 55, 56, 57, 58, 59, 60, 61, 62, 63, 64, 65, 66, 67, 68, 69, 70, 71, 72, 73, 74, 75, 76, 77, 78, 79, 80, 81, 82, 83, 84, 85, 86, 87, 88, 89, 90, 91, 92, 93, 94, 95, 96, 97, 98, 99, 100, 101, 102, 103, 104, 105, 106, 107, 108, 109, 110, 111, 112, 113, 114, 115, 116, 117, 118, 119, 120, 121, 122, 123, 124, 125, 126, 127, 128, 129, 130, 131, 132, 133, 134, 135, 136, 137, 138, 139, 140, 141, 142, 143, 144, 145, 146, 147, 148, 149, 150, 151, 152, 153, 154, 155, 156, 157, 158, 159, 160, 161, 162, 163, 164, 165, 166, 167, 168, 169, 170, 171, 172, 173, 174, 175, 176, 177, 178, 179, 180, 181, 182, 183, 184, 185, 186, 187, 188, 189, 190, 191, 192, 193, 194, 195, 196, 197] | 100002 => [1, 3, 4, 5, 6, 7, 8, 9, 10, 11, 12, 13, 14, 15, 16, 17, 18, 19, 20, 21, 22, 23, 24, 25, 26, 27, 28, 29, 30, 31, 32, 33, 34, 35, 36, 37, 38, 39, 40, 41, 42, 43, 44, 45, 46, 47, 48, 49, 50, 51, 52, 53, 54, 55, 56, 57, 58, 59, 60, 61, 62, 63, 64, 65, 66, 67, 68, 69, 70, 71, 72, 73, 74, 75, 76, 77, 78, 79, 80, 81, 82, 83, 84, 85, 86, 87, 88, 89, 90, 91, 92, 93, 94, 95, 96, 97, 98, 99, 100, 101, 102, 103, 104, 105, 106, 107, 108, 109, 110, 111, 112, 113, 114, 115, 116, 117, 118, 119, 120, 121, 122, 123, 124, 125, 126, 127, 128, 129, 130, 131, 132, 133, 134, 135, 136, 137, 138, 139, 140, 141, 142, 143, 144, 145, 146, 147, 148, 149, 150, 151, 152, 153, 154, 155, 156, 157, 158, 159, 160, 161, 162, 163, 164, 165, 166, 167, 168, 169, 170, 171, 172, 173, 174, 175, 176, 177, 178, 179, 180, 181, 182, 183, 184, 185, 186, 187, 188, 189, 190, 191, 192, 193, 194, 195, 196, 197] | 4 => [1, 2, 3, 4, 5, 6, 8, 9, 10, 11, 12, 13, 14, 15, 16, 17, 18, 19, 20, 21, 22, 23, 24, 25, 26, 27, 28, 29, 30, 31, 32, 33, 34, 35, 36, 37, 38, 39, 40, 41, 42, 43, 44, 45, 46, 47, 48, 49, 50, 51, 52, 53, 54, 55, 56, 57, 58, 59, 60, 61, 62, 63, 64, 65, 66, 67, 68, 69, 70, 71, 72, 73, 74, 75, 76, 77, 78, 79, 80, 81, 82, 83, 84, 85, 86, 87, 88, 89, 90, 91, 92, 93, 94, 95, 96, 97, 98, 99, 100, 101, 102, 103, 104, 105, 106, 107, 108, 109, 110, 111, 112, 113, 114, 115, 116, 117, 118, 119, 120, 121, 122, 123, 124, 125, 126, 127, 128, 129, 130, 131, 132, 133, 134, 135, 136, 137, 138, 139, 140, 141, 142, 143, 144, 145, 146, 147, 148, 149, 150, 151, 152, 153, 154, 155, 156, 157, 158, 159, 160, 161, 162, 163, 164, 165, 166, 167, 168, 169, 170, 171, 172, 173, 174, 175, 176, 177, 178, 179, 180, 181, 182, 183, 184, 185, 186, 187, 188, 189, 190, 191, 192, 193, 194, 195, 196, 197] | 100004 => [1, 3, 4, 5, 6, 7, 8, 9, 10, 11, 12, 13, 14, 15, 16, 17, 18, 19, 20, 21, 22, 23, 24, 25, 26, 27, 28, 29, 30, 31, 32, 33, 34, 35, 36, 37, 38, 39, 40, 41, 42, 43, 44, 45, 46, 47, 48, 49, 50, 51, 52, 53, 54, 55, 56, 57, 58, 59, 60, 61, 62, 63, 64, 65, 66, 67, 68, 69, 70, 71, 72, 73, 74, 75, 76, 77, 78, 79, 80, 81, 82, 83, 84, 85, 86, 87, 88, 89, 90, 91, 92, 93, 94, 95, 96, 97, 98, 99, 100, 101, 102, 103, 104, 105, 106, 107, 108, 109, 110, 111, 112, 113, 114, 115, 116, 117, 118, 119, 120, 121, 122, 123, 124, 125, 126, 127, 128, 129, 130, 131, 132, 133, 134, 135, 136, 137, 138, 139, 140, 141, 142, 143, 144, 145, 146, 147, 148, 149, 150, 151, 152, 153, 154, 155, 156, 157, 158, 159, 160, 161, 162, 163, 164, 165, 166, 167, 168, 169, 170, 171, 172, 173, 174, 175, 176, 177, 178, 179, 180, 181, 182, 183, 184, 185, 186, 187, 188, 189, 190, 191, 192, 193, 194, 195, 196, 197] | 6 => [1, 2, 3, 4, 5, 6, 7, 9, 10, 11, 12, 13, 14, 15, 16, 17, 18, 19, 20, 21, 22, 23, 24, 25, 26, 27, 28, 29, 30, 31, 32, 33, 34, 35, 36, 37, 38, 39, 40, 41, 42, 43, 44, 45, 46, 47, 48, 49, 50, 51, 52, 53, 54, 55, 56, 57, 58, 59, 60, 61, 62, 63, 64, 65, 66, 67, 68, 69, 70, 71, 72, 73, 74, 75, 76, 77, 78, 79, 80, 81, 82, 83, 84, 85, 86, 87, 88, 89, 90, 91, 92, 93, 94, 95, 96, 97, 98, 99, 100, 101, 102, 103, 104, 105, 106, 107, 108, 109, 110, 111, 112, 113, 114, 115, 116, 117, 118, 119, 120, 121, 122, 123, 124, 125, 126, 127, 128, 129, 130, 131, 132, 133, 134, 135, 136, 137, 138, 139, 140, 141, 142, 143, 144, 145, 146, 147, 148, 149, 150, 151, 152, 153, 154, 155, 156, 157, 158, 159, 160, 161, 162, 163, 164, 165, 166, 167, 168, 169, 170, 171, 172, 173, 174, 175, 176, 177, 178, 179, 180, 181, 182, 183, 184, 185, 186, 187, 188, 189, 190, 191, 192, 193, 194, 195, 196, 197] | 100006 => [0, 1, 3, 4, 5, 6, 7, 8, 9, 10, 11, 12, 13, 14, 15, 16, 17, 18, 19, 20, 21, 22, 23, 24, 25, 26, 27, 28, 29, 30, 31, 32, 33, 34, 35, 36, 37, 38, 39, 40, 41, 42, 43, 44, 45, 46, 47, 48, 49, 50, 51, 52, 53, 54, 55, 56, 57, 58, 59, 60, 61, 62, 63, 64, 65, 66, 67, 68, 69, 70, 71, 72, 73, 74, 75, 76, 77, 78, 79, 80, 81, 82, 83, 84, 85, 86, 87, 88, 89, 90, 91, 92, 93, 94, 95, 96, 97, 98, 99, 100, 101, 102, 103, 104, 105, 106, 107, 108, 109, 110, 111, 112, 113, 114, 115, 116, 117, 118, 119, 120, 121, 122, 123, 124, 125, 126, 127, 128, 129, 130, 131, 132, 133, 134, 135, 136, 137, 138, 139, 140, 141, 142, 143, 144, 145, 146, 147, 148, 149, 150, 151, 152, 153, 154, 155, 156, 157, 158, 159, 160, 161, 162, 163, 164, 165, 166, 167, 168, 169, 170, 171, 172, 173, 174, 175, 176, 177, 178, 179, 180, 181, 182, 183, 184, 185, 186, 187, 188, 189, 190, 191, 192, 193, 194, 195, 196, 197] | 200001 => [31] | 200009 => [76] | 200019 => [134] | 200024 => [166] | _ => []
def ps_a32_0 : List (Pat RT) := [.rptr [(.rs .impl_Node), (.rs .impl_Mail), (.rs .impl_Won), (.rs .impl_Seal)], .flat .q, .flat .q, .flat (.int .i64), .flat .q, .flat .q, .flat .q, .flat .q, .flat .q, .flat .q, .flat .q, .flat .q, .flat .q, .flat .q, .flat .q, .flat .q, .flat .q, .flat .q, .flat .q, .flat .q, .flat .q, .flat .q, .flat .q, .flat .q, .flat .q, .flat .q, .flat .q, .flat .q, .flat .q, .flat .q, .flat .q, .flat .q, .flat .q, .flat .q, .flat .q, .flat .q, .flat .q, .flat .q, .flat .q, .flat .q, .flat .q, .flat .q, .flat .q, .flat .q, .flat .q, .flat .q, .flat .q, .flat .q, .flat .q, .flat .q, .flat .q, .flat .q, .flat .q, .flat .q, .flat .q, .flat .q, .flat .q, .flat .q, .flat .q, .flat .q, .flat .q, .flat .q, .flat .q, .flat .q, .flat .q, .flat .q, .flat .q, .flat .q, .flat .q, .flat .q, .flat .q, .flat .q, .flat .q, .flat .q, .flat .q, .flat .q, .flat .q, .flat .q, .flat .q, .flat .q, .flat .q, .flat .q, .flat .q, .flat .q, .flat .q, .flat .q, .flat .q, .flat .q, .flat .q, .flat .q, .flat .q, .flat .q, .flat .q, .flat .q, .flat .q, .flat .q, .flat .q, .flat .q, .flat .q, .flat .q, .flat .q, .flat .q, .flat .q, .flat .q, .flat .q, .flat .q, .flat .q, .flat .q, .flat .q, .flat .q, .flat .q, .flat .q, .flat .q, .flat .q, .flat .q, .flat .q, .flat .q, .flat .q, .flat .q, .flat .q, .flat .q, .flat .q, .flat .q, .flat .q, .flat .q, .flat .q, .flat .q, .flat .q, .flat .q, .flat .q, .flat .q, .flat .q, .flat .q, .flat .q, .flat .q, .flat .q, .flat .q, .flat .q, .flat .q, .flat .q, .flat .q, .flat .q, .flat .q, .flat .q, .flat .q, .flat .q, .flat .q, .flat .q, .flat .q, .flat .q, .flat .q, .flat .q, .flat .q, .flat .q, .flat .q, .flat .q, .flat .q, .flat .q, .flat .q, .flat .q, .flat .q, .flat .q, .flat .q, .flat .q, .flat .q, .flat .q, .flat .q, .flat .q, .flat .q, .flat .q, .flat .q, .flat .q, .flat .q, .flat .q, .flat .q, .flat .q, .flat .q, .flat .q, .flat .q, .flat .q, .flat .q, .flat .q, .flat .q, .flat .q, .flat .q, .flat .q, .flat .q, .flat .q, .flat .q, .flat .q, .flat .q, .flat .q, .flat .q, .flat .q, .flat .q, .flat .q, .flat .q, .flat .q]
def os_a32_0 : List (OP RT) := []
def conv_a32_0 (r : Raw den ps_a32_0 os_a32_0) : ((Sl S_impl_Node) × (Sl S_impl_Mail) × (Sl S_impl_Won) × (Sl S_impl_Seal)) × (Int) := ((r.1.1.1, r.1.1.2.1, r.1.1.2.2.1, r.1.1.2.2.2.1), r.1.2.2.2.1)
def back_a32_0 (c : (Sl S_impl_Node) × (Sl S_impl_Mail) × (Sl S_impl_Won) × (Sl S_impl_Seal)) (w : Int) : St RT den := ⟨[(.rptr [(.rs c.1.z .impl_Node c.1.n c.1.f), (.rs c.2.1.z .impl_Mail c.2.1.n c.2.1.f), (.rs c.2.2.1.z .impl_Won c.2.2.1.n c.2.2.1.f), (.rs c.2.2.2.z .impl_Seal c.2.2.2.n c.2.2.2.f)]), .q, .q, (.int .i64 w), .q, .q, .q, .q, .q, .q, .q, .q, .q, .q, .q, .q, .q, .q, .q, .q, .q, .q, .q, .q, .q, .q, .q, .q, .q, .q, .q, .q, .q, .q, .q, .q, .q, .q, .q, .q, .q, .q, .q, .q, .q, .q, .q, .q, .q, .q, .q, .q, .q, .q, .q, .q, .q, .q, .q, .q, .q, .q, .q, .q, .q, .q, .q, .q, .q, .q, .q, .q, .q, .q, .q, .q, .q, .q, .q, .q, .q, .q, .q, .q, .q, .q, .q, .q, .q, .q, .q, .q, .q, .q, .q, .q, .q, .q, .q, .q, .q, .q, .q, .q, .q, .q, .q, .q, .q, .q, .q, .q, .q, .q, .q, .q, .q, .q, .q, .q, .q, .q, .q, .q, .q, .q, .q, .q, .q, .q, .q, .q, .q, .q, .q, .q, .q, .q, .q, .q, .q, .q, .q, .q, .q, .q, .q, .q, .q, .q, .q, .q, .q, .q, .q, .q, .q, .q, .q, .q, .q, .q, .q, .q, .q, .q, .q, .q, .q, .q, .q, .q, .q, .q, .q, .q, .q, .q, .q, .q, .q, .q, .q, .q, .q, .q, .q, .q, .q, .q, .q, .q, .q, .q, .q, .q, .q, .q], []⟩
def Bk_a32_0 {ρ : Type} (fu : Nat) (c : (Sl S_impl_Node) × (Sl S_impl_Mail) × (Sl S_impl_Won) × (Sl S_impl_Seal)) (k : Ex → St RT den → Option ρ) (w : Int) (go : (Int) → Option ρ) : Option ρ := F_spec_l9Fault_B0 fu c.1 c.2.1 c.2.2.1 c.2.2.2 (fun a0 => k .ret ⟨[(.rptr [(.rs c.1.z .impl_Node c.1.n c.1.f), (.rs c.2.1.z .impl_Mail c.2.1.n c.2.1.f), (.rs c.2.2.1.z .impl_Won c.2.2.1.n c.2.2.1.f), (.rs c.2.2.2.z .impl_Seal c.2.2.2.n c.2.2.2.f)]), .q, (.int .i64 a0), .q, .q, .q, .q, .q, .q, .q, .q, .q, .q, .q, .q, .q, .q, .q, .q, .q, .q, .q, .q, .q, .q, .q, .q, .q, .q, .q, .q, .q, .q, .q, .q, .q, .q, .q, .q, .q, .q, .q, .q, .q, .q, .q, .q, .q, .q, .q, .q, .q, .q, .q, .q, .q, .q, .q, .q, .q, .q, .q, .q, .q, .q, .q, .q, .q, .q, .q, .q, .q, .q, .q, .q, .q, .q, .q, .q, .q, .q, .q, .q, .q, .q, .q, .q, .q, .q, .q, .q, .q, .q, .q, .q, .q, .q, .q, .q, .q, .q, .q, .q, .q, .q, .q, .q, .q, .q, .q, .q, .q, .q, .q, .q, .q, .q, .q, .q, .q, .q, .q, .q, .q, .q, .q, .q, .q, .q, .q, .q, .q, .q, .q, .q, .q, .q, .q, .q, .q, .q, .q, .q, .q, .q, .q, .q, .q, .q, .q, .q, .q, .q, .q, .q, .q, .q, .q, .q, .q, .q, .q, .q, .q, .q, .q, .q, .q, .q, .q, .q, .q, .q, .q, .q, .q, .q, .q, .q, .q, .q, .q, .q, .q, .q, .q, .q, .q, .q, .q, .q, .q, .q, .q, .q, .q, .q, .q], []⟩) (k .ret ⟨[(.rptr [(.rs c.1.z .impl_Node c.1.n c.1.f), (.rs c.2.1.z .impl_Mail c.2.1.n c.2.1.f), (.rs c.2.2.1.z .impl_Won c.2.2.1.n c.2.2.1.f), (.rs c.2.2.2.z .impl_Seal c.2.2.2.n c.2.2.2.f)]), .q, (.int .i64 1), .q, .q, .q, .q, .q, .q, .q, .q, .q, .q, .q, .q, .q, .q, .q, .q, .q, .q, .q, .q, .q, .q, .q, .q, .q, .q, .q, .q, .q, .q, .q, .q, .q, .q, .q, .q, .q, .q, .q, .q, .q, .q, .q, .q, .q, .q, .q, .q, .q, .q, .q, .q, .q, .q, .q, .q, .q, .q, .q, .q, .q, .q, .q, .q, .q, .q, .q, .q, .q, .q, .q, .q, .q, .q, .q, .q, .q, .q, .q, .q, .q, .q, .q, .q, .q, .q, .q, .q, .q, .q, .q, .q, .q, .q, .q, .q, .q, .q, .q, .q, .q, .q, .q, .q, .q, .q, .q, .q, .q, .q, .q, .q, .q, .q, .q, .q, .q, .q, .q, .q, .q, .q, .q, .q, .q, .q, .q, .q, .q, .q, .q, .q, .q, .q, .q, .q, .q, .q, .q, .q, .q, .q, .q, .q, .q, .q, .q, .q, .q, .q, .q, .q, .q, .q, .q, .q, .q, .q, .q, .q, .q, .q, .q, .q, .q, .q, .q, .q, .q, .q, .q, .q, .q, .q, .q, .q, .q, .q, .q, .q, .q, .q, .q, .q, .q, .q, .q, .q, .q, .q, .q, .q, .q, .q, .q], []⟩) (k (.exit 0) ⟨[(.rptr [(.rs c.1.z .impl_Node c.1.n c.1.f), (.rs c.2.1.z .impl_Mail c.2.1.n c.2.1.f), (.rs c.2.2.1.z .impl_Won c.2.2.1.n c.2.2.1.f), (.rs c.2.2.2.z .impl_Seal c.2.2.2.n c.2.2.2.f)]), .q, .q, .q, .q, .q, .q, .q, .q, .q, .q, .q, .q, .q, .q, .q, .q, .q, .q, .q, .q, .q, .q, .q, .q, .q, .q, .q, .q, .q, .q, .q, .q, .q, .q, .q, .q, .q, .q, .q, .q, .q, .q, .q, .q, .q, .q, .q, .q, .q, .q, .q, .q, .q, .q, .q, .q, .q, .q, .q, .q, .q, .q, .q, .q, .q, .q, .q, .q, .q, .q, .q, .q, .q, .q, .q, .q, .q, .q, .q, .q, .q, .q, .q, .q, .q, .q, .q, .q, .q, .q, .q, .q, .q, .q, .q, .q, .q, .q, .q, .q, .q, .q, .q, .q, .q, .q, .q, .q, .q, .q, .q, .q, .q, .q, .q, .q, .q, .q, .q, .q, .q, .q, .q, .q, .q, .q, .q, .q, .q, .q, .q, .q, .q, .q, .q, .q, .q, .q, .q, .q, .q, .q, .q, .q, .q, .q, .q, .q, .q, .q, .q, .q, .q, .q, .q, .q, .q, .q, .q, .q, .q, .q, .q, .q, .q, .q, .q, .q, .q, .q, .q, .q, .q, .q, .q, .q, .q, .q, .q, .q, .q, .q, .q, .q, .q, .q, .q, .q, .q, .q, .q, .q, .q, .q, .q, .q, .q], []⟩) w go
def ps_a32_2 : List (Pat RT) := [.rptr [(.rs .impl_Node), (.rs .impl_Mail), (.rs .impl_Won), (.rs .impl_Seal)], .flat .q, .flat .q, .flat .q, .flat .q, .flat (.int .i64), .flat .q, .flat .q, .flat .q, .flat .q, .flat .q, .flat .q, .flat .q, .flat .q, .flat .q, .flat .q, .flat .q, .flat .q, .flat .q, .flat .q, .flat .q, .flat .q, .flat .q, .flat .q, .flat .q, .flat .q, .flat .q, .flat .q, .flat .q, .flat .q, .flat .q, .flat .q, .flat .q, .flat .q, .flat .q, .flat .q, .flat .q, .flat .q, .flat .q, .flat .q, .flat .q, .flat .q, .flat .q, .flat .q, .flat .q, .flat .q, .flat .q, .flat .q, .flat .q, .flat .q, .flat .q, .flat .q, .flat .q, .flat .q, .flat .q, .flat .q, .flat .q, .flat .q, .flat .q, .flat .q, .flat .q, .flat .q, .flat .q, .flat .q, .flat .q, .flat .q, .flat .q, .flat .q, .flat .q, .flat .q, .flat .q, .flat .q, .flat .q, .flat .q, .flat .q, .flat .q, .flat .q, .flat .q, .flat .q, .flat .q, .flat .q, .flat .q, .flat .q, .flat .q, .flat .q, .flat .q, .flat .q, .flat .q, .flat .q, .flat .q, .flat .q, .flat .q, .flat .q, .flat .q, .flat .q, .flat .q, .flat .q, .flat .q, .flat .q, .flat .q, .flat .q, .flat .q, .flat .q, .flat .q, .flat .q, .flat .q, .flat .q, .flat .q, .flat .q, .flat .q, .flat .q, .flat .q, .flat .q, .flat .q, .flat .q, .flat .q, .flat .q, .flat .q, .flat .q, .flat .q, .flat .q, .flat .q, .flat .q, .flat .q, .flat .q, .flat .q, .flat .q, .flat .q, .flat .q, .flat .q, .flat .q, .flat .q, .flat .q, .flat .q, .flat .q, .flat .q, .flat .q, .flat .q, .flat .q, .flat .q, .flat .q, .flat .q, .flat .q, .flat .q, .flat .q, .flat .q, .flat .q, .flat .q, .flat .q, .flat .q, .flat .q, .flat .q, .flat .q, .flat .q, .flat .q, .flat .q, .flat .q, .flat .q, .flat .q, .flat .q, .flat .q, .flat .q, .flat .q, .flat .q, .flat .q, .flat .q, .flat .q, .flat .q, .flat .q, .flat .q, .flat .q, .flat .q, .flat .q, .flat .q, .flat .q, .flat .q, .flat .q, .flat .q, .flat .q, .flat .q, .flat .q, .flat .q, .flat .q, .flat .q, .flat .q, .flat .q, .flat .q, .flat .q, .flat .q, .flat .q, .flat .q, .flat .q, .flat .q, .flat .q, .flat .q, .flat .q, .flat .q, .flat .q]
def os_a32_2 : List (OP RT) := []
def conv_a32_2 (r : Raw den ps_a32_2 os_a32_2) : ((Sl S_impl_Node) × (Sl S_impl_Mail) × (Sl S_impl_Won) × (Sl S_impl_Seal)) × (Int) := ((r.1.1.1, r.1.1.2.1, r.1.1.2.2.1, r.1.1.2.2.2.1), r.1.2.2.2.2.2.1)
def back_a32_2 (c : (Sl S_impl_Node) × (Sl S_impl_Mail) × (Sl S_impl_Won) × (Sl S_impl_Seal)) (w : Int) : St RT den := ⟨[(.rptr [(.rs c.1.z .impl_Node c.1.n c.1.f), (.rs c.2.1.z .impl_Mail c.2.1.n c.2.1.f), (.rs c.2.2.1.z .impl_Won c.2.2.1.n c.2.2.1.f), (.rs c.2.2.2.z .impl_Seal c.2.2.2.n c.2.2.2.f)]), .q, .q, .q, .q, (.int .i64 w), .q, .q, .q, .q, .q, .q, .q, .q, .q, .q, .q, .q, .q, .q, .q, .q, .q, .q, .q, .q, .q, .q, .q, .q, .q, .q, .q, .q, .q, .q, .q, .q, .q, .q, .q, .q, .q, .q, .q, .q, .q, .q, .q, .q, .q, .q, .q, .q, .q, .q, .q, .q, .q, .q, .q, .q, .q, .q, .q, .q, .q, .q, .q, .q, .q, .q, .q, .q, .q, .q, .q, .q, .q, .q, .q, .q, .q, .q, .q, .q, .q, .q, .q, .q, .q, .q, .q, .q, .q, .q, .q, .q, .q, .q, .q, .q, .q, .q, .q, .q, .q, .q, .q, .q, .q, .q, .q, .q, .q, .q, .q, .q, .q, .q, .q, .q, .q, .q, .q, .q, .q, .q, .q, .q, .q, .q, .q, .q, .q, .q, .q, .q, .q, .q, .q, .q, .q, .q, .q, .q, .q, .q, .q, .q, .q, .q, .q, .q, .q, .q, .q, .q, .q, .q, .q, .q, .q, .q, .q, .q, .q, .q, .q, .q, .q, .q, .q, .q, .q, .q, .q, .q, .q, .q, .q, .q, .q, .q, .q, .q, .q, .q, .q, .q, .q, .q, .q, .q, .q, .q, .q, .q], []⟩
def Bk_a32_2 {ρ : Type} (fu : Nat) (c : (Sl S_impl_Node) × (Sl S_impl_Mail) × (Sl S_impl_Won) × (Sl S_impl_Seal)) (k : Ex → St RT den → Option ρ) (w : Int) (go : (Int) → Option ρ) : Option ρ := F_spec_l9Fault_B2 fu c.1 c.2.1 c.2.2.1 c.2.2.2 (k .ret ⟨[(.rptr [(.rs c.1.z .impl_Node c.1.n c.1.f), (.rs c.2.1.z .impl_Mail c.2.1.n c.2.1.f), (.rs c.2.2.1.z .impl_Won c.2.2.1.n c.2.2.1.f), (.rs c.2.2.2.z .impl_Seal c.2.2.2.n c.2.2.2.f)]), .q, (.int .i64 3), .q, .q, .q, .q, .q, .q, .q, .q, .q, .q, .q, .q, .q, .q, .q, .q, .q, .q, .q, .q, .q, .q, .q, .q, .q, .q, .q, .q, .q, .q, .q, .q, .q, .q, .q, .q, .q, .q, .q, .q, .q, .q, .q, .q, .q, .q, .q, .q, .q, .q, .q, .q, .q, .q, .q, .q, .q, .q, .q, .q, .q, .q, .q, .q, .q, .q, .q, .q, .q, .q, .q, .q, .q, .q, .q, .q, .q, .q, .q, .q, .q, .q, .q, .q, .q, .q, .q, .q, .q, .q, .q, .q, .q, .q, .q, .q, .q, .q, .q, .q, .q, .q, .q, .q, .q, .q, .q, .q, .q, .q, .q, .q, .q, .q, .q, .q, .q, .q, .q, .q, .q, .q, .q, .q, .q, .q, .q, .q, .q, .q, .q, .q, .q, .q, .q, .q, .q, .q, .q, .q, .q, .q, .q, .q, .q, .q, .q, .q, .q, .q, .q, .q, .q, .q, .q, .q, .q, .q, .q, .q, .q, .q, .q, .q, .q, .q, .q, .q, .q, .q, .q, .q, .q, .q, .q, .q, .q, .q, .q, .q, .q, .q, .q, .q, .q, .q, .q, .q, .q, .q, .q, .q, .q, .q, .q], []⟩) (fun a0 => k .ret ⟨[(.rptr [(.rs c.1.z .impl_Node c.1.n c.1.f), (.rs c.2.1.z .impl_Mail c.2.1.n c.2.1.f), (.rs c.2.2.1.z .impl_Won c.2.2.1.n c.2.2.1.f), (.rs c.2.2.2.z .impl_Seal c.2.2.2.n c.2.2.2.f)]), .q, (.int .i64 a0), .q, .q, .q, .q, .q, .q, .q, .q, .q, .q, .q, .q, .q, .q, .q, .q, .q, .q, .q, .q, .q, .q, .q, .q, .q, .q, .q, .q, .q, .q, .q, .q, .q, .q, .q, .q, .q, .q, .q, .q, .q, .q, .q, .q, .q, .q, .q, .q, .q, .q, .q, .q, .q, .q, .q, .q, .q, .q, .q, .q, .q, .q, .q, .q, .q, .q, .q, .q, .q, .q, .q, .q, .q, .q, .q, .q, .q, .q, .q, .q, .q, .q, .q, .q, .q, .q, .q, .q, .q, .q, .q, .q, .q, .q, .q, .q, .q, .q, .q, .q, .q, .q, .q, .q, .q, .q, .q, .q, .q, .q, .q, .q, .q, .q, .q, .q, .q, .q, .q, .q, .q, .q, .q, .q, .q, .q, .q, .q, .q, .q, .q, .q, .q, .q, .q, .q, .q, .q, .q, .q, .q, .q, .q, .q, .q, .q, .q, .q, .q, .q, .q, .q, .q, .q, .q, .q, .q, .q, .q, .q, .q, .q, .q, .q, .q, .q, .q, .q, .q, .q, .q, .q, .q, .q, .q, .q, .q, .q, .q, .q, .q, .q, .q, .q, .q, .q, .q, .q, .q, .q, .q, .q, .q, .q, .q], []⟩) (k (.exit 2) ⟨[(.rptr [(.rs c.1.z .impl_Node c.1.n c.1.f), (.rs c.2.1.z .impl_Mail c.2.1.n c.2.1.f), (.rs c.2.2.1.z .impl_Won c.2.2.1.n c.2.2.1.f), (.rs c.2.2.2.z .impl_Seal c.2.2.2.n c.2.2.2.f)]), .q, .q, .q, .q, .q, .q, .q, .q, .q, .q, .q, .q, .q, .q, .q, .q, .q, .q, .q, .q, .q, .q, .q, .q, .q, .q, .q, .q, .q, .q, .q, .q, .q, .q, .q, .q, .q, .q, .q, .q, .q, .q, .q, .q, .q, .q, .q, .q, .q, .q, .q, .q, .q, .q, .q, .q, .q, .q, .q, .q, .q, .q, .q, .q, .q, .q, .q, .q, .q, .q, .q, .q, .q, .q, .q, .q, .q, .q, .q, .q, .q, .q, .q, .q, .q, .q, .q, .q, .q, .q, .q, .q, .q, .q, .q, .q, .q, .q, .q, .q, .q, .q, .q, .q, .q, .q, .q, .q, .q, .q, .q, .q, .q, .q, .q, .q, .q, .q, .q, .q, .q, .q, .q, .q, .q, .q, .q, .q, .q, .q, .q, .q, .q, .q, .q, .q, .q, .q, .q, .q, .q, .q, .q, .q, .q, .q, .q, .q, .q, .q, .q, .q, .q, .q, .q, .q, .q, .q, .q, .q, .q, .q, .q, .q, .q, .q, .q, .q, .q, .q, .q, .q, .q, .q, .q, .q, .q, .q, .q, .q, .q, .q, .q, .q, .q, .q, .q, .q, .q, .q, .q, .q, .q, .q, .q, .q, .q], []⟩) w go
def ps_a32_4 : List (Pat RT) := [.rptr [(.rs .impl_Node), (.rs .impl_Mail), (.rs .impl_Won), (.rs .impl_Seal)], .flat .q, .flat .q, .flat .q, .flat .q, .flat .q, .flat .q, .flat (.int .i64), .flat .q, .flat .q, .flat .q, .flat .q, .flat .q, .flat .q, .flat .q, .flat .q, .flat .q, .flat .q, .flat .q, .flat .q, .flat .q, .flat .q, .flat .q, .flat .q, .flat .q, .flat .q, .flat .q, .flat .q, .flat .q, .flat .q, .flat .q, .flat .q, .flat .q, .flat .q, .flat .q, .flat .q, .flat .q, .flat .q, .flat .q, .flat .q, .flat .q, .flat .q, .flat .q, .flat .q, .flat .q, .flat .q, .flat .q, .flat .q, .flat .q, .flat .q, .flat .q, .flat .q, .flat .q, .flat .q, .flat .q, .flat .q, .flat .q, .flat .q, .flat .q, .flat .q, .flat .q, .flat .q, .flat .q, .flat .q, .flat .q, .flat .q, .flat .q, .flat .q, .flat .q, .flat .q, .flat .q, .flat .q, .flat .q, .flat .q, .flat .q, .flat .q, .flat .q, .flat .q, .flat .q, .flat .q, .flat .q, .flat .q, .flat .q, .flat .q, .flat .q, .flat .q, .flat .q, .flat .q, .flat .q, .flat .q, .flat .q, .flat .q, .flat .q, .flat .q, .flat .q, .flat .q, .flat .q, .flat .q, .flat .q, .flat .q, .flat .q, .flat .q, .flat .q, .flat .q, .flat .q, .flat .q, .flat .q, .flat .q, .flat .q, .flat .q, .flat .q, .flat .q, .flat .q, .flat .q, .flat .q, .flat .q, .flat .q, .flat .q, .flat .q, .flat .q, .flat .q, .flat .q, .flat .q, .flat .q, .flat .q, .flat .q, .flat .q, .flat .q, .flat .q, .flat .q, .flat .q, .flat .q, .flat .q, .flat .q, .flat .q, .flat .q, .flat .q, .flat .q, .flat .q, .flat .q, .flat .q, .flat .q, .flat .q, .flat .q, .flat .q, .flat .q, .flat .q, .flat .q, .flat .q, .flat .q, .flat .q, .flat .q, .flat .q, .flat .q, .flat .q, .flat .q, .flat .q, .flat .q, .flat .q, .flat .q, .flat .q, .flat .q, .flat .q, .flat .q, .flat .q, .flat .q, .flat .q, .flat .q, .flat .q, .flat .q, .flat .q, .flat .q, .flat .q, .flat .q, .flat .q, .flat .q, .flat .q, .flat .q, .flat .q, .flat .q, .flat .q, .flat .q, .flat .q, .flat .q, .flat .q, .flat .q, .flat .q, .flat .q, .flat .q, .flat .q, .flat .q, .flat .q, .flat .q, .flat .q, .flat .q, .flat .q, .flat .q, .flat .q]
def os_a32_4 : List (OP RT) := []
def conv_a32_4 (r : Raw den ps_a32_4 os_a32_4) : ((Sl S_impl_Node) × (Sl S_impl_Mail) × (Sl S_impl_Won) × (Sl S_impl_Seal)) × (Int) := ((r.1.1.1, r.1.1.2.1, r.1.1.2.2.1, r.1.1.2.2.2.1), r.1.2.2.2.2.2.2.2.1)
def back_a32_4 (c : (Sl S_impl_Node) × (Sl S_impl_Mail) × (Sl S_impl_Won) × (Sl S_impl_Seal)) (w : Int) : St RT den := ⟨[(.rptr [(.rs c.1.z .impl_Node c.1.n c.1.f), (.rs c.2.1.z .impl_Mail c.2.1.n c.2.1.f), (.rs c.2.2.1.z .impl_Won c.2.2.1.n c.2.2.1.f), (.rs c.2.2.2.z .impl_Seal c.2.2.2.n c.2.2.2.f)]), .q, .q, .q, .q, .q, .q, (.int .i64 w), .q, .q, .q, .q, .q, .q, .q, .q, .q, .q, .q, .q, .q, .q, .q, .q, .q, .q, .q, .q, .q, .q, .q, .q, .q, .q, .q, .q, .q, .q, .q, .q, .q, .q, .q, .q, .q, .q, .q, .q, .q, .q, .q, .q, .q, .q, .q, .q, .q, .q, .q, .q, .q, .q, .q, .q, .q, .q, .q, .q, .q, .q, .q, .q, .q, .q, .q, .q, .q, .q, .q, .q, .q, .q, .q, .q, .q, .q, .q, .q, .q, .q, .q, .q, .q, .q, .q, .q, .q, .q, .q, .q, .q, .q, .q, .q, .q, .q, .q, .q, .q, .q, .q, .q, .q, .q, .q, .q, .q, .q, .q, .q, .q, .q, .q, .q, .q, .q, .q, .q, .q, .q, .q, .q, .q, .q, .q, .q, .q, .q, .q, .q, .q, .q, .q, .q, .q, .q, .q, .q, .q, .q, .q, .q, .q, .q, .q, .q, .q, .q, .q, .q, .q, .q, .q, .q, .q, .q, .q, .q, .q, .q, .q, .q, .q, .q, .q, .q, .q, .q, .q, .q, .q, .q, .q, .q, .q, .q, .q, .q, .q, .q, .q, .q, .q, .q, .q, .q, .q, .q], []⟩
def Bk_a32_4 {ρ : Type} (fu : Nat) (c : (Sl S_impl_Node) × (Sl S_impl_Mail) × (Sl S_impl_Won) × (Sl S_impl_Seal)) (k : Ex → St RT den → Option ρ) (w : Int) (go : (Int) → Option ρ) : Option ρ := F_spec_l9Fault_B4 fu c.1 c.2.1 c.2.2.1 c.2.2.2 (k .ret ⟨[(.rptr [(.rs c.1.z .impl_Node c.1.n c.1.f), (.rs c.2.1.z .impl_Mail c.2.1.n c.2.1.f), (.rs c.2.2.1.z .impl_Won c.2.2.1.n c.2.2.1.f), (.rs c.2.2.2.z .impl_Seal c.2.2.2.n c.2.2.2.f)]), .q, (.int .i64 3), .q, .q, .q, .q, .q, .q, .q, .q, .q, .q, .q, .q, .q, .q, .q, .q, .q, .q, .q, .q, .q, .q, .q, .q, .q, .q, .q, .q, .q, .q, .q, .q, .q, .q, .q, .q, .q, .q, .q, .q, .q, .q, .q, .q, .q, .q, .q, .q, .q, .q, .q, .q, .q, .q, .q, .q, .q, .q, .q, .q, .q, .q, .q, .q, .q, .q, .q, .q, .q, .q, .q, .q, .q, .q, .q, .q, .q, .q, .q, .q, .q, .q, .q, .q, .q, .q, .q, .q, .q, .q, .q, .q, .q, .q, .q, .q, .q, .q, .q, .q, .q, .q, .q, .q, .q, .q, .q, .q, .q, .q, .q, .q, .q, .q, .q, .q, .q, .q, .q, .q, .q, .q, .q, .q, .q, .q, .q, .q, .q, .q, .q, .q, .q, .q, .q, .q, .q, .q, .q, .q, .q, .q, .q, .q, .q, .q, .q, .q, .q, .q, .q, .q, .q, .q, .q, .q, .q, .q, .q, .q, .q, .q, .q, .q, .q, .q, .q, .q, .q, .q, .q, .q, .q, .q, .q, .q, .q, .q, .q, .q, .q, .q, .q, .q, .q, .q, .q, .q, .q, .q, .q, .q, .q, .q, .q], []⟩) (k (.exit 4) ⟨[(.rptr [(.rs c.1.z .impl_Node c.1.n c.1.f), (.rs c.2.1.z .impl_Mail c.2.1.n c.2.1.f), (.rs c.2.2.1.z .impl_Won c.2.2.1.n c.2.2.1.f), (.rs c.2.2.2.z .impl_Seal c.2.2.2.n c.2.2.2.f)]), .q, .q, .q, .q, .q, .q, .q, .q, .q, .q, .q, .q, .q, .q, .q, .q, .q, .q, .q, .q, .q, .q, .q, .q, .q, .q, .q, .q, .q, .q, .q, .q, .q, .q, .q, .q, .q, .q, .q, .q, .q, .q, .q, .q, .q, .q, .q, .q, .q, .q, .q, .q, .q, .q, .q, .q, .q, .q, .q, .q, .q, .q, .q, .q, .q, .q, .q, .q, .q, .q, .q, .q, .q, .q, .q, .q, .q, .q, .q, .q, .q, .q, .q, .q, .q, .q, .q, .q, .q, .q, .q, .q, .q, .q, .q, .q, .q, .q, .q, .q, .q, .q, .q, .q, .q, .q, .q, .q, .q, .q, .q, .q, .q, .q, .q, .q, .q, .q, .q, .q, .q, .q, .q, .q, .q, .q, .q, .q, .q, .q, .q, .q, .q, .q, .q, .q, .q, .q, .q, .q, .q, .q, .q, .q, .q, .q, .q, .q, .q, .q, .q, .q, .q, .q, .q, .q, .q, .q, .q, .q, .q, .q, .q, .q, .q, .q, .q, .q, .q, .q, .q, .q, .q, .q, .q, .q, .q, .q, .q, .q, .q, .q, .q, .q, .q, .q, .q, .q, .q, .q, .q, .q, .q, .q, .q, .q, .q], []⟩) w go
def ps_a32_6 : List (Pat RT) := [.rptr [(.rs .impl_Node), (.rs .impl_Mail), (.rs .impl_Won), (.rs .impl_Seal)], .flat .q, .flat .q, .flat .q, .flat .q, .flat .q, .flat .q, .flat .q, .flat (.int .i64), .flat .q, .flat .q, .flat .q, .flat .q, .flat .q, .flat .q, .flat .q, .flat .q, .flat .q, .flat .q, .flat .q, .flat .q, .flat .q, .flat .q, .flat .q, .flat .q, .flat .q, .flat .q, .flat .q, .flat .q, .flat .q, .flat .q, .flat .q, .flat .q, .flat .q, .flat .q, .flat .q, .flat .q, .flat .q, .flat .q, .flat .q, .flat .q, .flat .q, .flat .q, .flat .q, .flat .q, .flat .q, .flat .q, .flat .q, .flat .q, .flat .q, .flat .q, .flat .q, .flat .q, .flat .q, .flat .q, .flat .q, .flat .q, .flat .q, .flat .q, .flat .q, .flat .q, .flat .q, .flat .q, .flat .q, .flat .q, .flat .q, .flat .q, .flat .q, .flat .q, .flat .q, .flat .q, .flat .q, .flat .q, .flat .q, .flat .q, .flat .q, .flat .q, .flat .q, .flat .q, .flat .q, .flat .q, .flat .q, .flat .q, .flat .q, .flat .q, .flat .q, .flat .q, .flat .q, .flat .q, .flat .q, .flat .q, .flat .q, .flat .q, .flat .q, .flat .q, .flat .q, .flat .q, .flat .q, .flat .q, .flat .q, .flat .q, .flat .q, .flat .q, .flat .q, .flat .q, .flat .q, .flat .q, .flat .q, .flat .q, .flat .q, .flat .q, .flat .q, .flat .q, .flat .q, .flat .q, .flat .q, .flat .q, .flat .q, .flat .q, .flat .q, .flat .q, .flat .q, .flat .q, .flat .q, .flat .q, .flat .q, .flat .q, .flat .q, .flat .q, .flat .q, .flat .q, .flat .q, .flat .q, .flat .q, .flat .q, .flat .q, .flat .q, .flat .q, .flat .q, .flat .q, .flat .q, .flat .q, .flat .q, .flat .q, .flat .q, .flat .q, .flat .q, .flat .q, .flat .q, .flat .q, .flat .q, .flat .q, .flat .q, .flat .q, .flat .q, .flat .q, .flat .q, .flat .q, .flat .q, .flat .q, .flat .q, .flat .q, .flat .q, .flat .q, .flat .q, .flat .q, .flat .q, .flat .q, .flat .q, .flat .q, .flat .q, .flat .q, .flat .q, .flat .q, .flat .q, .flat .q, .flat .q, .flat .q, .flat .q, .flat .q, .flat .q, .flat .q, .flat .q, .flat .q, .flat .q, .flat .q, .flat .q, .flat .q, .flat .q, .flat .q, .flat .q, .flat .q, .flat .q, .flat .q, .flat .q, .flat .q, .flat .q, .flat .q]
def os_a32_6 : List (OP RT) := []
def conv_a32_6 (r : Raw den ps_a32_6 os_a32_6) : ((Sl S_impl_Node) × (Sl S_impl_Mail) × (Sl S_impl_Won) × (Sl S_impl_Seal)) × (Int) := ((r.1.1.1, r.1.1.2.1, r.1.1.2.2.1, r.1.1.2.2.2.1), r.1.2.2.2.2.2.2.2.2.1)
def back_a32_6 (c : (Sl S_impl_Node) × (Sl S_impl_Mail) × (Sl S_impl_Won) × (Sl S_impl_Seal)) (w : Int) : St RT den := ⟨[(.rptr [(.rs c.1.z .impl_Node c.1.n c.1.f), (.rs c.2.1.z .impl_Mail c.2.1.n c.2.1.f), (.rs c.2.2.1.z .impl_Won c.2.2.1.n c.2.2.1.f), (.rs c.2.2.2.z .impl_Seal c.2.2.2.n c.2.2.2.f)]), .q, .q, .q, .q, .q, .q, .q, (.int .i64 w), .q, .q, .q, .q, .q, .q, .q, .q, .q, .q, .q, .q, .q, .q, .q, .q, .q, .q, .q, .q, .q, .q, .q, .q, .q, .q, .q, .q, .q, .q, .q, .q, .q, .q, .q, .q, .q, .q, .q, .q, .q, .q, .q, .q, .q, .q, .q, .q, .q, .q, .q, .q, .q, .q, .q, .q, .q, .q, .q, .q, .q, .q, .q, .q, .q, .q, .q, .q, .q, .q, .q, .q, .q, .q, .q, .q, .q, .q, .q, .q, .q, .q, .q, .q, .q, .q, .q, .q, .q, .q, .q, .q, .q, .q, .q, .q, .q, .q, .q, .q, .q, .q, .q, .q, .q, .q, .q, .q, .q, .q, .q, .q, .q, .q, .q, .q, .q, .q, .q, .q, .q, .q, .q, .q, .q, .q, .q, .q, .q, .q, .q, .q, .q, .q, .q, .q, .q, .q, .q, .q, .q, .q, .q, .q, .q, .q, .q, .q, .q, .q, .q, .q, .q, .q, .q, .q, .q, .q, .q, .q, .q, .q, .q, .q, .q, .q, .q, .q, .q, .q, .q, .q, .q, .q, .q, .q, .q, .q, .q, .q, .q, .q, .q, .q, .q, .q, .q, .q, .q], []⟩
def Bk_a32_6 {ρ : Type} (fu : Nat) (c : (Sl S_impl_Node) × (Sl S_impl_Mail) × (Sl S_impl_Won) × (Sl S_impl_Seal)) (k : Ex → St RT den → Option ρ) (w : Int) (go : (Int) → Option ρ) : Option ρ := F_spec_l9Fault_B6 fu c.1 c.2.1 c.2.2.1 c.2.2.2 (k .ret ⟨[.q, .q, (.int .i64 3), .q, .q, .q, .q, .q, .q, .q, .q, .q, .q, .q, .q, .q, .q, .q, .q, .q, .q, .q, .q, .q, .q, .q, .q, .q, .q, .q, .q, .q, .q, .q, .q, .q, .q, .q, .q, .q, .q, .q, .q, .q, .q, .q, .q, .q, .q, .q, .q, .q, .q, .q, .q, .q, .q, .q, .q, .q, .q, .q, .q, .q, .q, .q, .q, .q, .q, .q, .q, .q, .q, .q, .q, .q, .q, .q, .q, .q, .q, .q, .q, .q, .q, .q, .q, .q, .q, .q, .q, .q, .q, .q, .q, .q, .q, .q, .q, .q, .q, .q, .q, .q, .q, .q, .q, .q, .q, .q, .q, .q, .q, .q, .q, .q, .q, .q, .q, .q, .q, .q, .q, .q, .q, .q, .q, .q, .q, .q, .q, .q, .q, .q, .q, .q, .q, .q, .q, .q, .q, .q, .q, .q, .q, .q, .q, .q, .q, .q, .q, .q, .q, .q, .q, .q, .q, .q, .q, .q, .q, .q, .q, .q, .q, .q, .q, .q, .q, .q, .q, .q, .q, .q, .q, .q, .q, .q, .q, .q, .q, .q, .q, .q, .q, .q, .q, .q, .q, .q, .q, .q, .q, .q, .q, .q, .q, .q], []⟩) (fun a0 => k .ret ⟨[.q, .q, (.int .i64 a0), .q, .q, .q, .q, .q, .q, .q, .q, .q, .q, .q, .q, .q, .q, .q, .q, .q, .q, .q, .q, .q, .q, .q, .q, .q, .q, .q, .q, .q, .q, .q, .q, .q, .q, .q, .q, .q, .q, .q, .q, .q, .q, .q, .q, .q, .q, .q, .q, .q, .q, .q, .q, .q, .q, .q, .q, .q, .q, .q, .q, .q, .q, .q, .q, .q, .q, .q, .q, .q, .q, .q, .q, .q, .q, .q, .q, .q, .q, .q, .q, .q, .q, .q, .q, .q, .q, .q, .q, .q, .q, .q, .q, .q, .q, .q, .q, .q, .q, .q, .q, .q, .q, .q, .q, .q, .q, .q, .q, .q, .q, .q, .q, .q, .q, .q, .q, .q, .q, .q, .q, .q, .q, .q, .q, .q, .q, .q, .q, .q, .q, .q, .q, .q, .q, .q, .q, .q, .q, .q, .q, .q, .q, .q, .q, .q, .q, .q, .q, .q, .q, .q, .q, .q, .q, .q, .q, .q, .q, .q, .q, .q, .q, .q, .q, .q, .q, .q, .q, .q, .q, .q, .q, .q, .q, .q, .q, .q, .q, .q, .q, .q, .q, .q, .q, .q, .q, .q, .q, .q, .q, .q, .q, .q, .q, .q], []⟩) (k (.exit 6) ⟨[.q, .q, .q, .q, .q, .q, .q, .q, .q, .q, .q, .q, .q, .q, .q, .q, .q, .q, .q, .q, .q, .q, .q, .q, .q, .q, .q, .q, .q, .q, .q, .q, .q, .q, .q, .q, .q, .q, .q, .q, .q, .q, .q, .q, .q, .q, .q, .q, .q, .q, .q, .q, .q, .q, .q, .q, .q, .q, .q, .q, .q, .q, .q, .q, .q, .q, .q, .q, .q, .q, .q, .q, .q, .q, .q, .q, .q, .q, .q, .q, .q, .q, .q, .q, .q, .q, .q, .q, .q, .q, .q, .q, .q, .q, .q, .q, .q, .q, .q, .q, .q, .q, .q, .q, .q, .q, .q, .q, .q, .q, .q, .q, .q, .q, .q, .q, .q, .q, .q, .q, .q, .q, .q, .q, .q, .q, .q, .q, .q, .q, .q, .q, .q, .q, .q, .q, .q, .q, .q, .q, .q, .q, .q, .q, .q, .q, .q, .q, .q, .q, .q, .q, .q, .q, .q, .q, .q, .q, .q, .q, .q, .q, .q, .q, .q, .q, .q, .q, .q, .q, .q, .q, .q, .q, .q, .q, .q, .q, .q, .q, .q, .q, .q, .q, .q, .q, .q, .q, .q, .q, .q, .q, .q, .q, .q, .q, .q, .q], []⟩) w go
def lp_a32 (fu : Nat) : Lp RT den (Int) := fun b s k => match b with | 0 => handle ps_a32_0 os_a32_0 conv_a32_0 (Bk_a32_0 fu) fu s k | 2 => handle ps_a32_2 os_a32_2 conv_a32_2 (Bk_a32_2 fu) fu s k | 4 => handle ps_a32_4 os_a32_4 conv_a32_4 (Bk_a32_4 fu) fu s k | 6 => handle ps_a32_6 os_a32_6 conv_a32_6 (Bk_a32_6 fu) fu s k | _ => none
theorem ev_a32 (fu : Nat) (t_0 : S_impl_Cluster) : evFun E (pc_a32 fu) msk_a32 (lp_a32 fu) out_i64 42 [(.rptr [(.rs t_0.Nodes.z .impl_Node t_0.Nodes.n t_0.Nodes.f), (.rs t_0.Mails.z .impl_Mail t_0.Mails.n t_0.Mails.f), (.rs t_0.Wins.z .impl_Won t_0.Wins.n t_0.Wins.f), (.rs t_0.Seals.z .impl_Seal t_0.Seals.n t_0.Seals.f)])] = F_spec_l9Fault fu t_0 := by kernel_rfl
noncomputable def body_a32 : Code := Try.f42.body.getD .skip
noncomputable def lc_a32_0 : Code := ((loops 0 body_a32).getD 0 (0, .skip)).2
theorem round_a32_0 (fu : Nat) (it : St RT den → Option (Int)) (k : Ex → St RT den → Option (Int)) c w : evCode E (pc_a32 fu) msk_a32 (lp_a32 fu) 0 lc_a32_0 (back_a32_0 c w) (after (msk_a32 0) (msk_a32 100000) 0 it k) = Bk_a32_0 fu c k w (fun w => it (back_a32_0 c w)) := by kernel_rfl
theorem lpok_a32_0 (fu : Nat) : ∀ s k r, lp_a32 fu 0 s k = some r → ∃ fuel, iter (msk_a32 0) (msk_a32 100000) s.objs.length (evCode E (pc_a32 fu) msk_a32 (lp_a32 fu) 0 lc_a32_0) fuel s k = some r :=
  handle_ok (ps := ps_a32_0) (os := os_a32_0) (conv := conv_a32_0) (B := Bk_a32_0 fu) (fu := fu) back_a32_0 (fun raw => by kernel_rfl) 0 (fun c w => by kernel_rfl) (round_a32_0 fu)
noncomputable def lc_a32_2 : Code := ((loops 0 body_a32).getD 1 (0, .skip)).2
theorem round_a32_2 (fu : Nat) (it : St RT den → Option (Int)) (k : Ex → St RT den → Option (Int)) c w : evCode E (pc_a32 fu) msk_a32 (lp_a32 fu) 2 lc_a32_2 (back_a32_2 c w) (after (msk_a32 2) (msk_a32 100002) 0 it k) = Bk_a32_2 fu c k w (fun w => it (back_a32_2 c w)) := by kernel_rfl
theorem lpok_a32_2 (fu : Nat) : ∀ s k r, lp_a32 fu 2 s k = some r → ∃ fuel, iter (msk_a32 2) (msk_a32 100002) s.objs.length (evCode E (pc_a32 fu) msk_a32 (lp_a32 fu) 2 lc_a32_2) fuel s k = some r :=
  handle_ok (ps := ps_a32_2) (os := os_a32_2) (conv := conv_a32_2) (B := Bk_a32_2 fu) (fu := fu) back_a32_2 (fun raw => by kernel_rfl) 0 (fun c w => by kernel_rfl) (round_a32_2 fu)
noncomputable def lc_a32_4 : Code := ((loops 0 body_a32).getD 2 (0, .skip)).2
theorem round_a32_4 (fu : Nat) (it : St RT den → Option (Int)) (k : Ex → St RT den → Option (Int)) c w : evCode E (pc_a32 fu) msk_a32 (lp_a32 fu) 4 lc_a32_4 (back_a32_4 c w) (after (msk_a32 4) (msk_a32 100004) 0 it k) = Bk_a32_4 fu c k w (fun w => it (back_a32_4 c w)) := by kernel_rfl
theorem lpok_a32_4 (fu : Nat) : ∀ s k r, lp_a32 fu 4 s k = some r → ∃ fuel, iter (msk_a32 4) (msk_a32 100004) s.objs.length (evCode E (pc_a32 fu) msk_a32 (lp_a32 fu) 4 lc_a32_4) fuel s k = some r :=
  handle_ok (ps := ps_a32_4) (os := os_a32_4) (conv := conv_a32_4) (B := Bk_a32_4 fu) (fu := fu) back_a32_4 (fun raw => by kernel_rfl) 0 (fun c w => by kernel_rfl) (round_a32_4 fu)
noncomputable def lc_a32_6 : Code := ((loops 0 body_a32).getD 3 (0, .skip)).2
theorem round_a32_6 (fu : Nat) (it : St RT den → Option (Int)) (k : Ex → St RT den → Option (Int)) c w : evCode E (pc_a32 fu) msk_a32 (lp_a32 fu) 6 lc_a32_6 (back_a32_6 c w) (after (msk_a32 6) (msk_a32 100006) 0 it k) = Bk_a32_6 fu c k w (fun w => it (back_a32_6 c w)) := by kernel_rfl
theorem lpok_a32_6 (fu : Nat) : ∀ s k r, lp_a32 fu 6 s k = some r → ∃ fuel, iter (msk_a32 6) (msk_a32 100006) s.objs.length (evCode E (pc_a32 fu) msk_a32 (lp_a32 fu) 6 lc_a32_6) fuel s k = some r :=
  handle_ok (ps := ps_a32_6) (os := os_a32_6) (conv := conv_a32_6) (B := Bk_a32_6 fu) (fu := fu) back_a32_6 (fun raw => by kernel_rfl) 0 (fun c w => by kernel_rfl) (round_a32_6 fu)
theorem lpok_a32 (fu : Nat) : LpOk E (pc_a32 fu) msk_a32 (lp_a32 fu) (loops 0 body_a32) := loop_all 4 (by kernel_rfl) fun i hi => match i, hi with
  | 0, _ => by
    have h : (loops 0 body_a32).getD 0 (0, .skip) = (0, lc_a32_0) := by kernel_rfl
    rw [h]; exact lpok_a32_0 fu
  | 1, _ => by
    have h : (loops 0 body_a32).getD 1 (0, .skip) = (2, lc_a32_2) := by kernel_rfl
    rw [h]; exact lpok_a32_2 fu
  | 2, _ => by
    have h : (loops 0 body_a32).getD 2 (0, .skip) = (4, lc_a32_4) := by kernel_rfl
    rw [h]; exact lpok_a32_4 fu
  | 3, _ => by
    have h : (loops 0 body_a32).getD 3 (0, .skip) = (6, lc_a32_6) := by kernel_rfl
    rw [h]; exact lpok_a32_6 fu
  | i + 4, hi => absurd hi (by omega)
def S_a32 (fu : Nat) (xs : List (D RT den)) : Option (Out RT den) := match xs with | [.rptr (.rs za0_1 .impl_Node na0_1 fa0_1 :: .rs za0_2 .impl_Mail na0_2 fa0_2 :: .rs za0_3 .impl_Won na0_3 fa0_3 :: .rs za0_4 .impl_Seal na0_4 fa0_4 :: ra0)] => some ⟨Int, F_spec_l9Fault fu (⟨(⟨za0_1, na0_1, fa0_1⟩ : (Sl S_impl_Node)), (⟨za0_2, na0_2, fa0_2⟩ : (Sl S_impl_Mail)), (⟨za0_3, na0_3, fa0_3⟩ : (Sl S_impl_Won)), (⟨za0_4, na0_4, fa0_4⟩ : (Sl S_impl_Seal))⟩ : S_impl_Cluster), enc_i64, fun _ => true⟩ | _ => none
theorem hpc_a32 (fu : Nat) : ∀ f xs o, pcf_a32 fu f xs = some o → ∀ y, o.x = some y → Good E Try.prog f xs (o.g y) := by
  intro f xs o h
  unfold pcf_a32 at h
  split at h
  · exact good_a13 fu xs o h
  · exact good_a28 fu xs o h
  · exact good_a29 fu xs o h
  · exact good_a31 fu xs o h
  · exact good_a23 fu xs o h
  · cases h
theorem goodv_a32 (fu : Nat) (t_0 : S_impl_Cluster) (y : Int) (hy : F_spec_l9Fault fu t_0 = some y) : Good E Try.prog 42 [(.rptr [(.rs t_0.Nodes.z .impl_Node t_0.Nodes.n t_0.Nodes.f), (.rs t_0.Mails.z .impl_Mail t_0.Mails.n t_0.Mails.f), (.rs t_0.Wins.z .impl_Won t_0.Wins.n t_0.Wins.f), (.rs t_0.Seals.z .impl_Seal t_0.Seals.n t_0.Seals.f)])] (enc_i64 y) :=
  fun_good E_ok (pc_good (pc := pc_a32 fu) (hpc_a32 fu) hpx0) (fn := Try.f42) (c := body_a32) (out := out_i64) (y := y) (by kernel_rfl) (by kernel_rfl) (by kernel_rfl) (lpok_a32 fu) (fun d hd => out_i64_enc d _ hd) ((ev_a32 fu t_0).trans hy)
theorem good_a32 (fu : Nat) : ∀ xs o, S_a32 fu xs = some o → ∀ y, o.x = some y → Good E Try.prog 42 xs (o.g y) := by
  intro xs o h y hy
  unfold S_a32 at h
  split at h
  · rename_i za0_1 na0_1 fa0_1 za0_2 na0_2 fa0_2 za0_3 na0_3 fa0_3 za0_4 na0_4 fa0_4 ra0
    cases h
    exact (goodv_a32 fu (⟨(⟨za0_1, na0_1, fa0_1⟩ : (Sl S_impl_Node)), (⟨za0_2, na0_2, fa0_2⟩ : (Sl S_impl_Mail)), (⟨za0_3, na0_3, fa0_3⟩ : (Sl S_impl_Won)), (⟨za0_4, na0_4, fa0_4⟩ : (Sl S_impl_Seal))⟩ : S_impl_Cluster) y hy).sub ⟨Sub.of_eq ra0 rfl, trivial⟩
  · cases h

/-! spec.l10Agreed -/
def F_spec_l10Agreed_H_B0 {ρ : Type} (fu : Nat) (c0_0 : (Sl S_impl_Node)) (c0_1 : (Sl S_impl_Mail)) (c0_2 : (Sl S_impl_Won)) (c0_3 : (Sl S_impl_Seal)) (k0 : Nat → Nat → (Nat → S_impl_Entry) → Option ρ) (out3_4 : Nat) (i4_5 : Int) (on0_6 : Nat) (of0_7 : (Nat → S_impl_Entry)) (go : Nat → Int → Nat → (Nat → S_impl_Entry) → Option ρ) : Option ρ :=
  (bif (decide (i4_5 < ((c0_3.n : Nat) : Int))) then ((bif (decide (0 ≤ i4_5) && decide ((Int.toNat i4_5) < c0_3.n)) then some () else none : Option Unit).bind fun _ => (bif (decide ((out3_4 + 1) ≤ 9223372036854775807) &&
    decide ((out3_4 + 1) * 72 ≤ 140737488355328)) then (go (out3_4 + 1) (IntKind.wrap .i64 (i4_5 + 1)) (out3_4 + 1) (fun i => if i < out3_4 then (of0_7 i) else ((fun i => [(c0_3.f (Int.toNat i4_5)).Entry].getD i (dflt .impl_Entry)) (i - out3_4)))) else
    none)) else (k0 out3_4 on0_6 of0_7))
def F_spec_l10Agreed_H (fu : Nat) (c_0 : S_impl_Cluster) : Option ((Sl S_impl_Entry)) :=
  (L (fun w0 go0 => F_spec_l10Agreed_H_B0 fu c_0.Nodes c_0.Mails c_0.Wins c_0.Seals (fun z155 z156 z157 => (some (⟨none, z155, z157⟩ : (Sl S_impl_Entry)))) w0.1 w0.2.1 w0.2.2.1 w0.2.2.2 (fun q0 q1 q2 q3 =>
    go0 (q0, q1, q2, q3))) fu ((0, 0, 0, (fun _ => dflt .impl_Entry)) : Nat × Int × Nat × (Nat → S_impl_Entry)))
def pc_a33 (fu : Nat) : Pc RT den := ⟨pcf0, fun _ => false, fun _ => false, pcd0, pcx0⟩
def msk_a33 (b : Nat) : List Nat := match b with | 0 => [1, 2, 5, 6, 7, 8, 9, 10, 11, 12, 13, 14, 15, 16, 17, 18, 19, 20, 21, 22, 23, 24, 25, 26] | 100000 => [0, 1, 4, 5, 6, 7, 8, 9, 10, 11, 12, 13, 14, 15, 16, 17, 18, 19, 20, 21, 22, 23, 24, 25, 26] | 300000 => [3] | _ => []
def ps_a33_0 : List (Pat RT) := [.rptr [(.rs .impl_Node), (.rs .impl_Mail), (.rs .impl_Won), (.rs .impl_Seal)], .flat .q, .flat .q, .flat (.os 0), .flat (.int .i64), .flat .q, .flat .q, .flat .q, .flat .q, .flat .q, .flat .q, .flat .q, .flat .q, .flat .q, .flat .q, .flat .q, .flat .q, .flat .q, .flat .q, .flat .q, .flat .q, .flat .q, .flat .q, .flat .q, .flat .q, .flat .q, .flat .q]
def os_a33_0 : List (OP RT) := [.row false .impl_Entry]
def conv_a33_0 (r : Raw den ps_a33_0 os_a33_0) : ((Sl S_impl_Node) × (Sl S_impl_Mail) × (Sl S_impl_Won) × (Sl S_impl_Seal)) × (Nat × Int × Nat × (Nat → S_impl_Entry)) := ((r.1.1.1, r.1.1.2.1, r.1.1.2.2.1, r.1.1.2.2.2.1), (r.1.2.2.2.1, r.1.2.2.2.2.1, r.2.1.1, r.2.1.2))
def back_a33_0 (c : (Sl S_impl_Node) × (Sl S_impl_Mail) × (Sl S_impl_Won) × (Sl S_impl_Seal)) (w : Nat × Int × Nat × (Nat → S_impl_Entry)) : St RT den := ⟨[(.rptr [(.rs c.1.z .impl_Node c.1.n c.1.f), (.rs c.2.1.z .impl_Mail c.2.1.n c.2.1.f), (.rs c.2.2.1.z .impl_Won c.2.2.1.n c.2.2.1.f), (.rs c.2.2.2.z .impl_Seal c.2.2.2.n c.2.2.2.f)]), .q, .q, (.os 0 w.1), (.int .i64 w.2.1), .q, .q, .q, .q, .q, .q, .q, .q, .q, .q, .q, .q, .q, .q, .q, .q, .q, .q, .q, .q, .q, .q], [(.row false .impl_Entry w.2.2.1 w.2.2.2)]⟩
def Bk_a33_0 {ρ : Type} (fu : Nat) (c : (Sl S_impl_Node) × (Sl S_impl_Mail) × (Sl S_impl_Won) × (Sl S_impl_Seal)) (k : Ex → St RT den → Option ρ) (w : Nat × Int × Nat × (Nat → S_impl_Entry)) (go : (Nat × Int × Nat × (Nat → S_impl_Entry)) → Option ρ) : Option ρ := F_spec_l10Agreed_H_B0 fu c.1 c.2.1 c.2.2.1 c.2.2.2 (fun a0 a1 a2 => k (.exit 0) ⟨[.q, .q, .q, (.os 0 a0), .q, .q, .q, .q, .q, .q, .q, .q, .q, .q, .q, .q, .q, .q, .q, .q, .q, .q, .q, .q, .q, .q, .q], [(.row false .impl_Entry a1 a2)]⟩) w.1 w.2.1 w.2.2.1 w.2.2.2 (fun q0 q1 q2 q3 => go (q0, q1, q2, q3))
def lp_a33 (fu : Nat) : Lp RT den ((Sl S_impl_Entry)) := fun b s k => match b with | 0 => handle ps_a33_0 os_a33_0 conv_a33_0 (Bk_a33_0 fu) fu s k | _ => none
theorem ev_a33 (fu : Nat) (c_0 : S_impl_Cluster) : evFunX E false (pc_a33 fu) msk_a33 (lp_a33 fu) out_sl_impl_Entry_H 43 [(.rptr [(.rs c_0.Nodes.z .impl_Node c_0.Nodes.n c_0.Nodes.f), (.rs c_0.Mails.z .impl_Mail c_0.Mails.n c_0.Mails.f), (.rs c_0.Wins.z .impl_Won c_0.Wins.n c_0.Wins.f), (.rs c_0.Seals.z .impl_Seal c_0.Seals.n c_0.Seals.f)])] [] = F_spec_l10Agreed_H fu c_0 := by kernel_rfl
noncomputable def body_a33 : Code := Try.f43.body.getD .skip
noncomputable def lc_a33_0 : Code := ((loops 0 body_a33).getD 0 (0, .skip)).2
theorem round_a33_0 (fu : Nat) (it : St RT den → Option ((Sl S_impl_Entry))) (k : Ex → St RT den → Option ((Sl S_impl_Entry))) c w : evCode E (pc_a33 fu) msk_a33 (lp_a33 fu) 0 lc_a33_0 (back_a33_0 c w) (after (msk_a33 0) (msk_a33 100000) 1 it k) = Bk_a33_0 fu c k w (fun w => it (back_a33_0 c w)) := by kernel_rfl
theorem lpok_a33_0 (fu : Nat) : ∀ s k r, lp_a33 fu 0 s k = some r → ∃ fuel, iter (msk_a33 0) (msk_a33 100000) s.objs.length (evCode E (pc_a33 fu) msk_a33 (lp_a33 fu) 0 lc_a33_0) fuel s k = some r :=
  handle_ok (ps := ps_a33_0) (os := os_a33_0) (conv := conv_a33_0) (B := Bk_a33_0 fu) (fu := fu) back_a33_0 (fun raw => by kernel_rfl) 1 (fun c w => by kernel_rfl) (round_a33_0 fu)
theorem lpok_a33 (fu : Nat) : LpOk E (pc_a33 fu) msk_a33 (lp_a33 fu) (loops 0 body_a33) := loop_all 1 (by kernel_rfl) fun i hi => match i, hi with
  | 0, _ => by
    have h : (loops 0 body_a33).getD 0 (0, .skip) = (0, lc_a33_0) := by kernel_rfl
    rw [h]; exact lpok_a33_0 fu
  | i + 1, hi => absurd hi (by omega)
def S_a33 (fu : Nat) (xs : List (D RT den)) (ins : List (Ob RT den)) : Option (OutX RT den) := match xs, ins with | [.rptr [.rs za0_1 .impl_Node na0_1 fa0_1, .rs za0_2 .impl_Mail na0_2 fa0_2, .rs za0_3 .impl_Won na0_3 fa0_3, .rs za0_4 .impl_Seal na0_4 fa0_4]], [] => some ⟨(Sl S_impl_Entry), F_spec_l10Agreed_H fu (⟨(⟨za0_1, na0_1, fa0_1⟩ : (Sl S_impl_Node)), (⟨za0_2, na0_2, fa0_2⟩ : (Sl S_impl_Mail)), (⟨za0_3, na0_3, fa0_3⟩ : (Sl S_impl_Won)), (⟨za0_4, na0_4, fa0_4⟩ : (Sl S_impl_Seal))⟩ : S_impl_Cluster), enc_sl_impl_Entry_H⟩ | _, _ => none
theorem goodv_a33 (fu : Nat) (c_0 : S_impl_Cluster) (y : (Sl S_impl_Entry)) (hy : F_spec_l10Agreed_H fu c_0 = some y) : GoodX E Try.prog 43 [(.rptr [(.rs c_0.Nodes.z .impl_Node c_0.Nodes.n c_0.Nodes.f), (.rs c_0.Mails.z .impl_Mail c_0.Mails.n c_0.Mails.f), (.rs c_0.Wins.z .impl_Won c_0.Wins.n c_0.Wins.f), (.rs c_0.Seals.z .impl_Seal c_0.Seals.n c_0.Seals.f)])] [] (enc_sl_impl_Entry_H y).1 (enc_sl_impl_Entry_H y).2 :=
  funX_good (ke := false) E_ok (pc_good (pc := pc_a33 fu) hpc0 hpx0) (fn := Try.f43) (c := body_a33) (out := out_sl_impl_Entry_H) (y := y) (by kernel_rfl) (by kernel_rfl) (by kernel_rfl) (lpok_a33 fu) (by kernel_rfl) (Nat.zero_le _) (fun d os hd => out_sl_impl_Entry_H_enc d os _ hd) ((ev_a33 fu c_0).trans hy)
theorem good_a33 (fu : Nat) : ∀ xs ins o, S_a33 fu xs ins = some o → ∀ y, o.x = some y → GoodX E Try.prog 43 xs ins (o.g y).1 (o.g y).2 := by
  intro xs ins o h y hy
  unfold S_a33 at h
  split at h
  · rename_i za0_1 na0_1 fa0_1 za0_2 na0_2 fa0_2 za0_3 na0_3 fa0_3 za0_4 na0_4 fa0_4
    cases h
    exact goodv_a33 fu (⟨(⟨za0_1, na0_1, fa0_1⟩ : (Sl S_impl_Node)), (⟨za0_2, na0_2, fa0_2⟩ : (Sl S_impl_Mail)), (⟨za0_3, na0_3, fa0_3⟩ : (Sl S_impl_Won)), (⟨za0_4, na0_4, fa0_4⟩ : (Sl S_impl_Seal))⟩ : S_impl_Cluster) y hy
  · cases h

/-! spec.AgreedOf -/
def F_spec_AgreedOf_H (fu : Nat) (c_0 : S_impl_Cluster) : Option (S_impl_EntriesResult) :=
  ((F_spec_l9Fault fu c_0).bind fun y160 => (bif (y160 != 0) then (some (⟨y160, (⟨(some true), 0, (fun _ => dflt .impl_Entry)⟩ : (Sl S_impl_Entry))⟩ : S_impl_EntriesResult)) else
    ((F_spec_l10Agreed_H fu c_0).bind fun y161 => (some (⟨0, (⟨none, y161.n, y161.f⟩ : (Sl S_impl_Entry))⟩ : S_impl_EntriesResult)))))
def pcf_a34 (fu : Nat) (f : Nat) (xs : List (D RT den)) : Option (Out RT den) := match f with | 42 => S_a32 fu xs | _ => none
def pcx_a34 (fu : Nat) (f : Nat) (xs : List (D RT den)) (ins : List (Ob RT den)) : Option (OutX RT den) := match f with | 43 => S_a33 fu xs ins | _ => none
def pcd_a34 : Nat → Bool := fun _ => false
def pc_a34 (fu : Nat) : Pc RT den := ⟨pcf_a34 fu, fun f => match f with | 43 => true | _ => false, fun _ => false, pcd_a34, pcx_a34 fu⟩
def msk_a34 (b : Nat) : List Nat := match b with | 500004 => [1] | _ => []
def lp_a34 (fu : Nat) : Lp RT den (S_impl_EntriesResult) := fun b s k => none
theorem ev_a34 (fu : Nat) (c_0 : S_impl_Cluster) : evFunX E false (pc_a34 fu) msk_a34 (lp_a34 fu) out_impl_EntriesResult_H 8 [(.agg [(.rs c_0.Nodes.z .impl_Node c_0.Nodes.n c_0.Nodes.f), (.rs c_0.Mails.z .impl_Mail c_0.Mails.n c_0.Mails.f), (.rs c_0.Wins.z .impl_Won c_0.Wins.n c_0.Wins.f), (.rs c_0.Seals.z .impl_Seal c_0.Seals.n c_0.Seals.f)])] [] = F_spec_AgreedOf_H fu c_0 := by kernel_rfl
noncomputable def body_a34 : Code := Try.f8.body.getD .skip
theorem lpok_a34 (fu : Nat) : LpOk E (pc_a34 fu) msk_a34 (lp_a34 fu) (loops 0 body_a34) := by
  have h : loops 0 body_a34 = [] := by kernel_rfl
  rw [h]; intro p hp; cases hp
def S_a34 (fu : Nat) (xs : List (D RT den)) (ins : List (Ob RT den)) : Option (OutX RT den) := match xs, ins with | [.agg [.rs za0_1 .impl_Node na0_1 fa0_1, .rs za0_2 .impl_Mail na0_2 fa0_2, .rs za0_3 .impl_Won na0_3 fa0_3, .rs za0_4 .impl_Seal na0_4 fa0_4]], [] => some ⟨S_impl_EntriesResult, F_spec_AgreedOf_H fu (⟨(⟨za0_1, na0_1, fa0_1⟩ : (Sl S_impl_Node)), (⟨za0_2, na0_2, fa0_2⟩ : (Sl S_impl_Mail)), (⟨za0_3, na0_3, fa0_3⟩ : (Sl S_impl_Won)), (⟨za0_4, na0_4, fa0_4⟩ : (Sl S_impl_Seal))⟩ : S_impl_Cluster), enc_impl_EntriesResult_H⟩ | _, _ => none
theorem hpc_a34 (fu : Nat) : ∀ f xs o, pcf_a34 fu f xs = some o → ∀ y, o.x = some y → Good E Try.prog f xs (o.g y) := by
  intro f xs o h
  unfold pcf_a34 at h
  split at h
  · exact good_a32 fu xs o h
  · cases h
theorem hpx_a34 (fu : Nat) : ∀ f xs ins o, pcx_a34 fu f xs ins = some o → ∀ y, o.x = some y → GoodXD E Try.prog (pcd_a34 f) f xs ins (o.g y).1 (o.g y).2 := by
  intro f xs ins o h
  unfold pcx_a34 at h
  split at h
  · exact good_a33 fu xs ins o h
  · cases h
theorem goodv_a34 (fu : Nat) (c_0 : S_impl_Cluster) (y : S_impl_EntriesResult) (hy : F_spec_AgreedOf_H fu c_0 = some y) : GoodX E Try.prog 8 [(.agg [(.rs c_0.Nodes.z .impl_Node c_0.Nodes.n c_0.Nodes.f), (.rs c_0.Mails.z .impl_Mail c_0.Mails.n c_0.Mails.f), (.rs c_0.Wins.z .impl_Won c_0.Wins.n c_0.Wins.f), (.rs c_0.Seals.z .impl_Seal c_0.Seals.n c_0.Seals.f)])] [] (enc_impl_EntriesResult_H y).1 (enc_impl_EntriesResult_H y).2 :=
  funX_good (ke := false) E_ok (pc_good (pc := pc_a34 fu) (hpc_a34 fu) (hpx_a34 fu)) (fn := Try.f8) (c := body_a34) (out := out_impl_EntriesResult_H) (y := y) (by kernel_rfl) (by kernel_rfl) (by kernel_rfl) (lpok_a34 fu) (by kernel_rfl) (Nat.zero_le _) (fun d os hd => out_impl_EntriesResult_H_enc d os _ hd) ((ev_a34 fu c_0).trans hy)
theorem good_a34 (fu : Nat) : ∀ xs ins o, S_a34 fu xs ins = some o → ∀ y, o.x = some y → GoodX E Try.prog 8 xs ins (o.g y).1 (o.g y).2 := by
  intro xs ins o h y hy
  unfold S_a34 at h
  split at h
  · rename_i za0_1 na0_1 fa0_1 za0_2 na0_2 fa0_2 za0_3 na0_3 fa0_3 za0_4 na0_4 fa0_4
    cases h
    exact goodv_a34 fu (⟨(⟨za0_1, na0_1, fa0_1⟩ : (Sl S_impl_Node)), (⟨za0_2, na0_2, fa0_2⟩ : (Sl S_impl_Mail)), (⟨za0_3, na0_3, fa0_3⟩ : (Sl S_impl_Won)), (⟨za0_4, na0_4, fa0_4⟩ : (Sl S_impl_Seal))⟩ : S_impl_Cluster) y hy
  · cases h

/-! (*impl.Cluster).sealed -/
def F_impl_Cluster_sealed_H_B0 {ρ : Type} (fu : Nat) (t10_1 : (Sl S_impl_Seal)) (t11_2 : Int) (k0 : Nat → Nat → (Nat → S_impl_Entry) → Option ρ) (out3_0 : Nat) (t12_3 : Int) (on0_4 : Nat) (of0_5 : (Nat → S_impl_Entry)) (go : Nat → Int → Nat → (Nat → S_impl_Entry) → Option ρ) : Option ρ :=
  (bif (decide (t12_3 < t11_2)) then ((bif (decide (0 ≤ t12_3) && decide ((Int.toNat t12_3) < t10_1.n)) then some () else none : Option Unit).bind fun _ => (bif (decide ((out3_0 + 1) ≤ 9223372036854775807) &&
    decide ((out3_0 + 1) * 72 ≤ 140737488355328)) then (go (out3_0 + 1) (IntKind.wrap .i64 (t12_3 + 1)) (out3_0 + 1) (fun i => if i < out3_0 then (of0_5 i) else ((fun i => [(t10_1.f (Int.toNat t12_3)).Entry].getD i (dflt .impl_Entry)) (i - out3_0)))) else
    none)) else (k0 out3_0 on0_4 of0_5))
def F_impl_Cluster_sealed_H (fu : Nat) (c_0 : S_impl_Cluster) : Option ((Sl S_impl_Entry)) :=
  (L (fun w0 go0 => F_impl_Cluster_sealed_H_B0 fu c_0.Seals ((c_0.Seals.n : Nat) : Int) (fun z172 z173 z174 => (some (⟨none, z172, z174⟩ : (Sl S_impl_Entry)))) w0.1 w0.2.1 w0.2.2.1 w0.2.2.2 (fun q0 q1 q2 q3 =>
    go0 (q0, q1, q2, q3))) fu ((0, 0, 0, (fun _ => dflt .impl_Entry)) : Nat × Int × Nat × (Nat → S_impl_Entry)))
def pc_a35 (fu : Nat) : Pc RT den := ⟨pcf0, fun _ => false, fun _ => false, pcd0, pcx0⟩
def msk_a35 (b : Nat) : List Nat := match b with | 0 => [0, 1, 2, 4, 5, 6, 7, 8, 9, 13, 14, 15, 16, 17, 18, 19, 20, 21, 22] | 100000 => [0, 1, 4, 5, 6, 7, 8, 9, 10, 11, 12, 13, 14, 15, 16, 17, 18, 19, 20, 21, 22] | 300000 => [3] | _ => []
def ps_a35_0 : List (Pat RT) := [.flat .q, .flat .q, .flat .q, .flat (.os 0), .flat .q, .flat .q, .flat .q, .flat .q, .flat .q, .flat .q, .flat (.rs .impl_Seal), .flat (.int .i64), .flat (.int .i64), .flat .q, .flat .q, .flat .q, .flat .q, .flat .q, .flat .q, .flat .q, .flat .q, .flat .q, .flat .q]
def os_a35_0 : List (OP RT) := [.row false .impl_Entry]
def conv_a35_0 (r : Raw den ps_a35_0 os_a35_0) : ((Sl S_impl_Seal) × Int) × (Nat × Int × Nat × (Nat → S_impl_Entry)) := ((r.1.2.2.2.2.2.2.2.2.2.2.1, r.1.2.2.2.2.2.2.2.2.2.2.2.1), (r.1.2.2.2.1, r.1.2.2.2.2.2.2.2.2.2.2.2.2.1, r.2.1.1, r.2.1.2))
def back_a35_0 (c : (Sl S_impl_Seal) × Int) (w : Nat × Int × Nat × (Nat → S_impl_Entry)) : St RT den := ⟨[.q, .q, .q, (.os 0 w.1), .q, .q, .q, .q, .q, .q, (.rs c.1.z .impl_Seal c.1.n c.1.f), (.int .i64 c.2), (.int .i64 w.2.1), .q, .q, .q, .q, .q, .q, .q, .q, .q, .q], [(.row false .impl_Entry w.2.2.1 w.2.2.2)]⟩
def Bk_a35_0 {ρ : Type} (fu : Nat) (c : (Sl S_impl_Seal) × Int) (k : Ex → St RT den → Option ρ) (w : Nat × Int × Nat × (Nat → S_impl_Entry)) (go : (Nat × Int × Nat × (Nat → S_impl_Entry)) → Option ρ) : Option ρ := F_impl_Cluster_sealed_H_B0 fu c.1 c.2 (fun a0 a1 a2 => k (.exit 0) ⟨[.q, .q, .q, (.os 0 a0), .q, .q, .q, .q, .q, .q, .q, .q, .q, .q, .q, .q, .q, .q, .q, .q, .q, .q, .q], [(.row false .impl_Entry a1 a2)]⟩) w.1 w.2.1 w.2.2.1 w.2.2.2 (fun q0 q1 q2 q3 => go (q0, q1, q2, q3))
def lp_a35 (fu : Nat) : Lp RT den ((Sl S_impl_Entry)) := fun b s k => match b with | 0 => handle ps_a35_0 os_a35_0 conv_a35_0 (Bk_a35_0 fu) fu s k | _ => none
theorem ev_a35 (fu : Nat) (c_0 : S_impl_Cluster) : evFunX E false (pc_a35 fu) msk_a35 (lp_a35 fu) out_sl_impl_Entry_H 49 [(.rptr [(.rs c_0.Nodes.z .impl_Node c_0.Nodes.n c_0.Nodes.f), (.rs c_0.Mails.z .impl_Mail c_0.Mails.n c_0.Mails.f), (.rs c_0.Wins.z .impl_Won c_0.Wins.n c_0.Wins.f), (.rs c_0.Seals.z .impl_Seal c_0.Seals.n c_0.Seals.f)])] [] = F_impl_Cluster_sealed_H fu c_0 := by kernel_rfl
noncomputable def body_a35 : Code := Try.f49.body.getD .skip
noncomputable def lc_a35_0 : Code := ((loops 0 body_a35).getD 0 (0, .skip)).2
theorem round_a35_0 (fu : Nat) (it : St RT den → Option ((Sl S_impl_Entry))) (k : Ex → St RT den → Option ((Sl S_impl_Entry))) c w : evCode E (pc_a35 fu) msk_a35 (lp_a35 fu) 0 lc_a35_0 (back_a35_0 c w) (after (msk_a35 0) (msk_a35 100000) 1 it k) = Bk_a35_0 fu c k w (fun w => it (back_a35_0 c w)) := by kernel_rfl
theorem lpok_a35_0 (fu : Nat) : ∀ s k r, lp_a35 fu 0 s k = some r → ∃ fuel, iter (msk_a35 0) (msk_a35 100000) s.objs.length (evCode E (pc_a35 fu) msk_a35 (lp_a35 fu) 0 lc_a35_0) fuel s k = some r :=
  handle_ok (ps := ps_a35_0) (os := os_a35_0) (conv := conv_a35_0) (B := Bk_a35_0 fu) (fu := fu) back_a35_0 (fun raw => by kernel_rfl) 1 (fun c w => by kernel_rfl) (round_a35_0 fu)
theorem lpok_a35 (fu : Nat) : LpOk E (pc_a35 fu) msk_a35 (lp_a35 fu) (loops 0 body_a35) := loop_all 1 (by kernel_rfl) fun i hi => match i, hi with
  | 0, _ => by
    have h : (loops 0 body_a35).getD 0 (0, .skip) = (0, lc_a35_0) := by kernel_rfl
    rw [h]; exact lpok_a35_0 fu
  | i + 1, hi => absurd hi (by omega)
def S_a35 (fu : Nat) (xs : List (D RT den)) (ins : List (Ob RT den)) : Option (OutX RT den) := match xs, ins with | [.rptr [.rs za0_1 .impl_Node na0_1 fa0_1, .rs za0_2 .impl_Mail na0_2 fa0_2, .rs za0_3 .impl_Won na0_3 fa0_3, .rs za0_4 .impl_Seal na0_4 fa0_4]], [] => some ⟨(Sl S_impl_Entry), F_impl_Cluster_sealed_H fu (⟨(⟨za0_1, na0_1, fa0_1⟩ : (Sl S_impl_Node)), (⟨za0_2, na0_2, fa0_2⟩ : (Sl S_impl_Mail)), (⟨za0_3, na0_3, fa0_3⟩ : (Sl S_impl_Won)), (⟨za0_4, na0_4, fa0_4⟩ : (Sl S_impl_Seal))⟩ : S_impl_Cluster), enc_sl_impl_Entry_H⟩ | _, _ => none
theorem goodv_a35 (fu : Nat) (c_0 : S_impl_Cluster) (y : (Sl S_impl_Entry)) (hy : F_impl_Cluster_sealed_H fu c_0 = some y) : GoodX E Try.prog 49 [(.rptr [(.rs c_0.Nodes.z .impl_Node c_0.Nodes.n c_0.Nodes.f), (.rs c_0.Mails.z .impl_Mail c_0.Mails.n c_0.Mails.f), (.rs c_0.Wins.z .impl_Won c_0.Wins.n c_0.Wins.f), (.rs c_0.Seals.z .impl_Seal c_0.Seals.n c_0.Seals.f)])] [] (enc_sl_impl_Entry_H y).1 (enc_sl_impl_Entry_H y).2 :=
  funX_good (ke := false) E_ok (pc_good (pc := pc_a35 fu) hpc0 hpx0) (fn := Try.f49) (c := body_a35) (out := out_sl_impl_Entry_H) (y := y) (by kernel_rfl) (by kernel_rfl) (by kernel_rfl) (lpok_a35 fu) (by kernel_rfl) (Nat.zero_le _) (fun d os hd => out_sl_impl_Entry_H_enc d os _ hd) ((ev_a35 fu c_0).trans hy)
theorem good_a35 (fu : Nat) : ∀ xs ins o, S_a35 fu xs ins = some o → ∀ y, o.x = some y → GoodX E Try.prog 49 xs ins (o.g y).1 (o.g y).2 := by
  intro xs ins o h y hy
  unfold S_a35 at h
  split at h
  · rename_i za0_1 na0_1 fa0_1 za0_2 na0_2 fa0_2 za0_3 na0_3 fa0_3 za0_4 na0_4 fa0_4
    cases h
    exact goodv_a35 fu (⟨(⟨za0_1, na0_1, fa0_1⟩ : (Sl S_impl_Node)), (⟨za0_2, na0_2, fa0_2⟩ : (Sl S_impl_Mail)), (⟨za0_3, na0_3, fa0_3⟩ : (Sl S_impl_Won)), (⟨za0_4, na0_4, fa0_4⟩ : (Sl S_impl_Seal))⟩ : S_impl_Cluster) y hy
  · cases h

/-! impl.size[impl.Node] -/
def F_impl_size_impl_Node (fu : Nat) (list_0 : (Sl S_impl_Node)) : Option (Int) :=
  (some ((list_0.n : Nat) : Int))
def pc_a36 (fu : Nat) : Pc RT den := ⟨pcf0, fun _ => false, fun _ => false, pcd0, pcx0⟩
def msk_a36 (b : Nat) : List Nat := []
def lp_a36 (fu : Nat) : Lp RT den (Int) := fun b s k => none
theorem ev_a36 (fu : Nat) (list_0 : (Sl S_impl_Node)) : evFun E (pc_a36 fu) msk_a36 (lp_a36 fu) out_i64 112 [(.rs list_0.z .impl_Node list_0.n list_0.f)] = F_impl_size_impl_Node fu list_0 := by kernel_rfl
noncomputable def body_a36 : Code := Try.f112.body.getD .skip
theorem lpok_a36 (fu : Nat) : LpOk E (pc_a36 fu) msk_a36 (lp_a36 fu) (loops 0 body_a36) := by
  have h : loops 0 body_a36 = [] := by kernel_rfl
  rw [h]; intro p hp; cases hp
def S_a36 (fu : Nat) (xs : List (D RT den)) : Option (Out RT den) := match xs with | [.rs za0_0 .impl_Node na0_0 fa0_0] => some ⟨Int, F_impl_size_impl_Node fu (⟨za0_0, na0_0, fa0_0⟩ : (Sl S_impl_Node)), enc_i64, fun _ => true⟩ | _ => none
theorem goodv_a36 (fu : Nat) (list_0 : (Sl S_impl_Node)) (y : Int) (hy : F_impl_size_impl_Node fu list_0 = some y) : Good E Try.prog 112 [(.rs list_0.z .impl_Node list_0.n list_0.f)] (enc_i64 y) :=
  fun_good E_ok (pc_good (pc := pc_a36 fu) hpc0 hpx0) (fn := Try.f112) (c := body_a36) (out := out_i64) (y := y) (by kernel_rfl) (by kernel_rfl) (by kernel_rfl) (lpok_a36 fu) (fun d hd => out_i64_enc d _ hd) ((ev_a36 fu list_0).trans hy)
theorem good_a36 (fu : Nat) : ∀ xs o, S_a36 fu xs = some o → ∀ y, o.x = some y → Good E Try.prog 112 xs (o.g y) := by
  intro xs o h y hy
  unfold S_a36 at h
  split at h
  · rename_i za0_0 na0_0 fa0_0
    cases h
    exact goodv_a36 fu (⟨za0_0, na0_0, fa0_0⟩ : (Sl S_impl_Node)) y hy
  · cases h

/-! impl.in -/
def F_impl_in (fu : Nat) (n_0 : Int) (low_1 : Int) (high_2 : Int) : Option (Bool) :=
  (((bif (decide (n_0 ≥ low_1)) then (some (decide (n_0 ≤ high_2))) else (some false)) : Option Bool).bind fun m208 => (some m208))
def pc_a37 (fu : Nat) : Pc RT den := ⟨pcf0, fun _ => false, fun _ => false, pcd0, pcx0⟩
def msk_a37 (b : Nat) : List Nat := match b with | 200001 => [6] | _ => []
def lp_a37 (fu : Nat) : Lp RT den (Bool) := fun b s k => none
theorem ev_a37 (fu : Nat) (n_0 : Int) (low_1 : Int) (high_2 : Int) : evFun E (pc_a37 fu) msk_a37 (lp_a37 fu) out_bo 72 [(.int .i64 n_0), (.int .i64 low_1), (.int .i64 high_2)] = F_impl_in fu n_0 low_1 high_2 := by kernel_rfl
noncomputable def body_a37 : Code := Try.f72.body.getD .skip
theorem lpok_a37 (fu : Nat) : LpOk E (pc_a37 fu) msk_a37 (lp_a37 fu) (loops 0 body_a37) := by
  have h : loops 0 body_a37 = [] := by kernel_rfl
  rw [h]; intro p hp; cases hp
def S_a37 (fu : Nat) (xs : List (D RT den)) : Option (Out RT den) := match xs with | [.int .i64 a0_0, .int .i64 a1_0, .int .i64 a2_0] => some ⟨Bool, F_impl_in fu a0_0 a1_0 a2_0, enc_bo, fun _ => true⟩ | _ => none
theorem goodv_a37 (fu : Nat) (n_0 : Int) (low_1 : Int) (high_2 : Int) (y : Bool) (hy : F_impl_in fu n_0 low_1 high_2 = some y) : Good E Try.prog 72 [(.int .i64 n_0), (.int .i64 low_1), (.int .i64 high_2)] (enc_bo y) :=
  fun_good E_ok (pc_good (pc := pc_a37 fu) hpc0 hpx0) (fn := Try.f72) (c := body_a37) (out := out_bo) (y := y) (by kernel_rfl) (by kernel_rfl) (by kernel_rfl) (lpok_a37 fu) (fun d hd => out_bo_enc d _ hd) ((ev_a37 fu n_0 low_1 high_2).trans hy)
theorem good_a37 (fu : Nat) : ∀ xs o, S_a37 fu xs = some o → ∀ y, o.x = some y → Good E Try.prog 72 xs (o.g y) := by
  intro xs o h y hy
  unfold S_a37 at h
  split at h
  · rename_i a0_0 a1_0 a2_0
    cases h
    exact goodv_a37 fu a0_0 a1_0 a2_0 y hy
  · cases h

/-! (*impl.Cluster).isPlace -/
def F_impl_Cluster_isPlace (fu : Nat) (c_0 : S_impl_Cluster) (node_1 : Int) : Option (Bool) :=
  ((F_impl_size_impl_Node fu c_0.Nodes).bind fun y206 => ((F_impl_in fu node_1 0 (IntKind.wrap .i64 (y206 - 1))).bind fun y207 => (some y207)))
def pcf_a38 (fu : Nat) (f : Nat) (xs : List (D RT den)) : Option (Out RT den) := match f with | 72 => S_a37 fu xs | 112 => S_a36 fu xs | _ => none
def pc_a38 (fu : Nat) : Pc RT den := ⟨pcf_a38 fu, fun _ => false, fun _ => false, pcd0, pcx0⟩
def msk_a38 (b : Nat) : List Nat := []
def lp_a38 (fu : Nat) : Lp RT den (Bool) := fun b s k => none
theorem ev_a38 (fu : Nat) (c_0 : S_impl_Cluster) (node_1 : Int) : evFun E (pc_a38 fu) msk_a38 (lp_a38 fu) out_bo 114 [(.rptr [(.rs c_0.Nodes.z .impl_Node c_0.Nodes.n c_0.Nodes.f), (.rs c_0.Mails.z .impl_Mail c_0.Mails.n c_0.Mails.f), (.rs c_0.Wins.z .impl_Won c_0.Wins.n c_0.Wins.f), (.rs c_0.Seals.z .impl_Seal c_0.Seals.n c_0.Seals.f)]), (.int .i64 node_1)] = F_impl_Cluster_isPlace fu c_0 node_1 := by kernel_rfl
noncomputable def body_a38 : Code := Try.f114.body.getD .skip
theorem lpok_a38 (fu : Nat) : LpOk E (pc_a38 fu) msk_a38 (lp_a38 fu) (loops 0 body_a38) := by
  have h : loops 0 body_a38 = [] := by kernel_rfl
  rw [h]; intro p hp; cases hp
def S_a38 (fu : Nat) (xs : List (D RT den)) : Option (Out RT den) := match xs with | [.rptr (.rs za0_1 .impl_Node na0_1 fa0_1 :: .rs za0_2 .impl_Mail na0_2 fa0_2 :: .rs za0_3 .impl_Won na0_3 fa0_3 :: .rs za0_4 .impl_Seal na0_4 fa0_4 :: ra0), .int .i64 a1_0] => some ⟨Bool, F_impl_Cluster_isPlace fu (⟨(⟨za0_1, na0_1, fa0_1⟩ : (Sl S_impl_Node)), (⟨za0_2, na0_2, fa0_2⟩ : (Sl S_impl_Mail)), (⟨za0_3, na0_3, fa0_3⟩ : (Sl S_impl_Won)), (⟨za0_4, na0_4, fa0_4⟩ : (Sl S_impl_Seal))⟩ : S_impl_Cluster) a1_0, enc_bo, fun _ => true⟩ | _ => none
theorem hpc_a38 (fu : Nat) : ∀ f xs o, pcf_a38 fu f xs = some o → ∀ y, o.x = some y → Good E Try.prog f xs (o.g y) := by
  intro f xs o h
  unfold pcf_a38 at h
  split at h
  · exact good_a37 fu xs o h
  · exact good_a36 fu xs o h
  · cases h
theorem goodv_a38 (fu : Nat) (c_0 : S_impl_Cluster) (node_1 : Int) (y : Bool) (hy : F_impl_Cluster_isPlace fu c_0 node_1 = some y) : Good E Try.prog 114 [(.rptr [(.rs c_0.Nodes.z .impl_Node c_0.Nodes.n c_0.Nodes.f), (.rs c_0.Mails.z .impl_Mail c_0.Mails.n c_0.Mails.f), (.rs c_0.Wins.z .impl_Won c_0.Wins.n c_0.Wins.f), (.rs c_0.Seals.z .impl_Seal c_0.Seals.n c_0.Seals.f)]), (.int .i64 node_1)] (enc_bo y) :=
  fun_good E_ok (pc_good (pc := pc_a38 fu) (hpc_a38 fu) hpx0) (fn := Try.f114) (c := body_a38) (out := out_bo) (y := y) (by kernel_rfl) (by kernel_rfl) (by kernel_rfl) (lpok_a38 fu) (fun d hd => out_bo_enc d _ hd) ((ev_a38 fu c_0 node_1).trans hy)
theorem good_a38 (fu : Nat) : ∀ xs o, S_a38 fu xs = some o → ∀ y, o.x = some y → Good E Try.prog 114 xs (o.g y) := by
  intro xs o h y hy
  unfold S_a38 at h
  split at h
  · rename_i za0_1 na0_1 fa0_1 za0_2 na0_2 fa0_2 za0_3 na0_3 fa0_3 za0_4 na0_4 fa0_4 ra0 a1_0
    cases h
    exact (goodv_a38 fu (⟨(⟨za0_1, na0_1, fa0_1⟩ : (Sl S_impl_Node)), (⟨za0_2, na0_2, fa0_2⟩ : (Sl S_impl_Mail)), (⟨za0_3, na0_3, fa0_3⟩ : (Sl S_impl_Won)), (⟨za0_4, na0_4, fa0_4⟩ : (Sl S_impl_Seal))⟩ : S_impl_Cluster) a1_0 y hy).sub ⟨Sub.of_eq ra0 rfl, .refl _, trivial⟩
  · cases h

/-! (*impl.Node).isId -/
def F_impl_Node_isId (fu : Nat) (n_0 : S_impl_Node) (id_1 : Int) : Option (Bool) :=
  ((F_impl_in fu id_1 0 (IntKind.wrap .i64 (n_0.Peers - 1))).bind fun y260 => (some y260))
def pcf_a39 (fu : Nat) (f : Nat) (xs : List (D RT den)) : Option (Out RT den) := match f with | 72 => S_a37 fu xs | _ => none
def pc_a39 (fu : Nat) : Pc RT den := ⟨pcf_a39 fu, fun _ => false, fun _ => false, pcd0, pcx0⟩
def msk_a39 (b : Nat) : List Nat := []
def lp_a39 (fu : Nat) : Lp RT den (Bool) := fun b s k => none
theorem ev_a39 (fu : Nat) (n_0 : S_impl_Node) (id_1 : Int) : evFun E (pc_a39 fu) msk_a39 (lp_a39 fu) out_bo 167 [(.rptr [(.int .i64 n_0.Id), (.int .i64 n_0.Peers), (.int .i64 n_0.Term), (.int .i64 n_0.Voted), (.rs n_0.Log.z .impl_Entry n_0.Log.n n_0.Log.f), (.int .i64 n_0.Role), (.int .i64 n_0.Commit), (.rs n_0.Votes.z .i64 n_0.Votes.n n_0.Votes.f), (.rs n_0.Next.z .i64 n_0.Next.n n_0.Next.f), (.rs n_0.Match.z .i64 n_0.Match.n n_0.Match.f)]), (.int .i64 id_1)] = F_impl_Node_isId fu n_0 id_1 := by kernel_rfl
noncomputable def body_a39 : Code := Try.f167.body.getD .skip
theorem lpok_a39 (fu : Nat) : LpOk E (pc_a39 fu) msk_a39 (lp_a39 fu) (loops 0 body_a39) := by
  have h : loops 0 body_a39 = [] := by kernel_rfl
  rw [h]; intro p hp; cases hp
def S_a39 (fu : Nat) (xs : List (D RT den)) : Option (Out RT den) := match xs with | [.rptr (.int .i64 a0_1 :: .int .i64 a0_2 :: .int .i64 a0_3 :: .int .i64 a0_4 :: .rs za0_5 .impl_Entry na0_5 fa0_5 :: .int .i64 a0_6 :: .int .i64 a0_7 :: .rs za0_8 .i64 na0_8 fa0_8 :: .rs za0_9 .i64 na0_9 fa0_9 :: .rs za0_10 .i64 na0_10 fa0_10 :: ra0), .int .i64 a1_0] => some ⟨Bool, F_impl_Node_isId fu (⟨a0_1, a0_2, a0_3, a0_4, (⟨za0_5, na0_5, fa0_5⟩ : (Sl S_impl_Entry)), a0_6, a0_7, (⟨za0_8, na0_8, fa0_8⟩ : (Sl Int)), (⟨za0_9, na0_9, fa0_9⟩ : (Sl Int)), (⟨za0_10, na0_10, fa0_10⟩ : (Sl Int))⟩ : S_impl_Node) a1_0, enc_bo, fun _ => true⟩ | _ => none
theorem hpc_a39 (fu : Nat) : ∀ f xs o, pcf_a39 fu f xs = some o → ∀ y, o.x = some y → Good E Try.prog f xs (o.g y) := by
  intro f xs o h
  unfold pcf_a39 at h
  split at h
  · exact good_a37 fu xs o h
  · cases h
theorem goodv_a39 (fu : Nat) (n_0 : S_impl_Node) (id_1 : Int) (y : Bool) (hy : F_impl_Node_isId fu n_0 id_1 = some y) : Good E Try.prog 167 [(.rptr [(.int .i64 n_0.Id), (.int .i64 n_0.Peers), (.int .i64 n_0.Term), (.int .i64 n_0.Voted), (.rs n_0.Log.z .impl_Entry n_0.Log.n n_0.Log.f), (.int .i64 n_0.Role), (.int .i64 n_0.Commit), (.rs n_0.Votes.z .i64 n_0.Votes.n n_0.Votes.f), (.rs n_0.Next.z .i64 n_0.Next.n n_0.Next.f), (.rs n_0.Match.z .i64 n_0.Match.n n_0.Match.f)]), (.int .i64 id_1)] (enc_bo y) :=
  fun_good E_ok (pc_good (pc := pc_a39 fu) (hpc_a39 fu) hpx0) (fn := Try.f167) (c := body_a39) (out := out_bo) (y := y) (by kernel_rfl) (by kernel_rfl) (by kernel_rfl) (lpok_a39 fu) (fun d hd => out_bo_enc d _ hd) ((ev_a39 fu n_0 id_1).trans hy)
theorem good_a39 (fu : Nat) : ∀ xs o, S_a39 fu xs = some o → ∀ y, o.x = some y → Good E Try.prog 167 xs (o.g y) := by
  intro xs o h y hy
  unfold S_a39 at h
  split at h
  · rename_i a0_1 a0_2 a0_3 a0_4 za0_5 na0_5 fa0_5 a0_6 a0_7 za0_8 na0_8 fa0_8 za0_9 na0_9 fa0_9 za0_10 na0_10 fa0_10 ra0 a1_0
    cases h
    exact (goodv_a39 fu (⟨a0_1, a0_2, a0_3, a0_4, (⟨za0_5, na0_5, fa0_5⟩ : (Sl S_impl_Entry)), a0_6, a0_7, (⟨za0_8, na0_8, fa0_8⟩ : (Sl Int)), (⟨za0_9, na0_9, fa0_9⟩ : (Sl Int)), (⟨za0_10, na0_10, fa0_10⟩ : (Sl Int))⟩ : S_impl_Node) a1_0 y hy).sub ⟨Sub.of_eq ra0 rfl, .refl _, trivial⟩
  · cases h

/-! impl.needs -/
def F_impl_needs (fu : Nat) (kind_0 : Int) : Option (Bool × Bool × Bool × Bool) :=
  ((F_impl_in fu kind_0 5 8).bind fun y332 => ((F_impl_in fu kind_0 5 6).bind fun y333 => (bif (kind_0 == 1) then (some ((!y333), true, (kind_0 != 4), y332)) else (some ((!y333),
    y332, (kind_0 != 4), y332)))))
def pcf_b0 (fu : Nat) (f : Nat) (xs : List (D RT den)) : Option (Out RT den) := match f with | 72 => S_a37 fu xs | _ => none
def pc_b0 (fu : Nat) : Pc RT den := ⟨pcf_b0 fu, fun _ => false, fun _ => false, pcd0, pcx0⟩
def msk_b0 (b : Nat) : List Nat := []
def lp_b0 (fu : Nat) : Lp RT den (Bool × Bool × Bool × Bool) := fun b s k => none
theorem ev_b0 (fu : Nat) (kind_0 : Int) : evFun E (pc_b0 fu) msk_b0 (lp_b0 fu) out_bo_bo_bo_bo 197 [(.int .i64 kind_0)] = F_impl_needs fu kind_0 := by kernel_rfl
noncomputable def body_b0 : Code := Try.f197.body.getD .skip
theorem lpok_b0 (fu : Nat) : LpOk E (pc_b0 fu) msk_b0 (lp_b0 fu) (loops 0 body_b0) := by
  have h : loops 0 body_b0 = [] := by kernel_rfl
  rw [h]; intro p hp; cases hp
def S_b0 (fu : Nat) (xs : List (D RT den)) : Option (Out RT den) := match xs with | [.int .i64 a0_0] => some ⟨Bool × Bool × Bool × Bool, F_impl_needs fu a0_0, enc_bo_bo_bo_bo, fun _ => true⟩ | _ => none
theorem hpc_b0 (fu : Nat) : ∀ f xs o, pcf_b0 fu f xs = some o → ∀ y, o.x = some y → Good E Try.prog f xs (o.g y) := by
  intro f xs o h
  unfold pcf_b0 at h
  split at h
  · exact good_a37 fu xs o h
  · cases h
theorem goodv_b0 (fu : Nat) (kind_0 : Int) (y : Bool × Bool × Bool × Bool) (hy : F_impl_needs fu kind_0 = some y) : Good E Try.prog 197 [(.int .i64 kind_0)] (enc_bo_bo_bo_bo y) :=
  fun_good E_ok (pc_good (pc := pc_b0 fu) (hpc_b0 fu) hpx0) (fn := Try.f197) (c := body_b0) (out := out_bo_bo_bo_bo) (y := y) (by kernel_rfl) (by kernel_rfl) (by kernel_rfl) (lpok_b0 fu) (fun d hd => out_bo_bo_bo_bo_enc d _ hd) ((ev_b0 fu kind_0).trans hy)
theorem good_b0 (fu : Nat) : ∀ xs o, S_b0 fu xs = some o → ∀ y, o.x = some y → Good E Try.prog 197 xs (o.g y) := by
  intro xs o h y hy
  unfold S_b0 at h
  split at h
  · rename_i a0_0
    cases h
    exact goodv_b0 fu a0_0 y hy
  · cases h

/-! impl.isName -/
def F_impl_isName (fu : Nat) (name_0 : Int) : Option (Bool) :=
  ((F_impl_in fu name_0 1 999).bind fun y334 => (some y334))
def pcf_b1 (fu : Nat) (f : Nat) (xs : List (D RT den)) : Option (Out RT den) := match f with | 72 => S_a37 fu xs | _ => none
def pc_b1 (fu : Nat) : Pc RT den := ⟨pcf_b1 fu, fun _ => false, fun _ => false, pcd0, pcx0⟩
def msk_b1 (b : Nat) : List Nat := []
def lp_b1 (fu : Nat) : Lp RT den (Bool) := fun b s k => none
theorem ev_b1 (fu : Nat) (name_0 : Int) : evFun E (pc_b1 fu) msk_b1 (lp_b1 fu) out_bo 136 [(.int .i64 name_0)] = F_impl_isName fu name_0 := by kernel_rfl
noncomputable def body_b1 : Code := Try.f136.body.getD .skip
theorem lpok_b1 (fu : Nat) : LpOk E (pc_b1 fu) msk_b1 (lp_b1 fu) (loops 0 body_b1) := by
  have h : loops 0 body_b1 = [] := by kernel_rfl
  rw [h]; intro p hp; cases hp
def S_b1 (fu : Nat) (xs : List (D RT den)) : Option (Out RT den) := match xs with | [.int .i64 a0_0] => some ⟨Bool, F_impl_isName fu a0_0, enc_bo, fun _ => true⟩ | _ => none
theorem hpc_b1 (fu : Nat) : ∀ f xs o, pcf_b1 fu f xs = some o → ∀ y, o.x = some y → Good E Try.prog f xs (o.g y) := by
  intro f xs o h
  unfold pcf_b1 at h
  split at h
  · exact good_a37 fu xs o h
  · cases h
theorem goodv_b1 (fu : Nat) (name_0 : Int) (y : Bool) (hy : F_impl_isName fu name_0 = some y) : Good E Try.prog 136 [(.int .i64 name_0)] (enc_bo y) :=
  fun_good E_ok (pc_good (pc := pc_b1 fu) (hpc_b1 fu) hpx0) (fn := Try.f136) (c := body_b1) (out := out_bo) (y := y) (by kernel_rfl) (by kernel_rfl) (by kernel_rfl) (lpok_b1 fu) (fun d hd => out_bo_enc d _ hd) ((ev_b1 fu name_0).trans hy)
theorem good_b1 (fu : Nat) : ∀ xs o, S_b1 fu xs = some o → ∀ y, o.x = some y → Good E Try.prog 136 xs (o.g y) := by
  intro xs o h y hy
  unfold S_b1 at h
  split at h
  · rename_i a0_0
    cases h
    exact goodv_b1 fu a0_0 y hy
  · cases h

/-! impl.isAddress -/
def F_impl_isAddress (fu : Nat) (a_0 : Int) : Option (Bool) :=
  ((F_impl_in fu a_0 0 4294967295).bind fun y335 => (some y335))
def pcf_b2 (fu : Nat) (f : Nat) (xs : List (D RT den)) : Option (Out RT den) := match f with | 72 => S_a37 fu xs | _ => none
def pc_b2 (fu : Nat) : Pc RT den := ⟨pcf_b2 fu, fun _ => false, fun _ => false, pcd0, pcx0⟩
def msk_b2 (b : Nat) : List Nat := []
def lp_b2 (fu : Nat) : Lp RT den (Bool) := fun b s k => none
theorem ev_b2 (fu : Nat) (a_0 : Int) : evFun E (pc_b2 fu) msk_b2 (lp_b2 fu) out_bo 93 [(.int .i64 a_0)] = F_impl_isAddress fu a_0 := by kernel_rfl
noncomputable def body_b2 : Code := Try.f93.body.getD .skip
theorem lpok_b2 (fu : Nat) : LpOk E (pc_b2 fu) msk_b2 (lp_b2 fu) (loops 0 body_b2) := by
  have h : loops 0 body_b2 = [] := by kernel_rfl
  rw [h]; intro p hp; cases hp
def S_b2 (fu : Nat) (xs : List (D RT den)) : Option (Out RT den) := match xs with | [.int .i64 a0_0] => some ⟨Bool, F_impl_isAddress fu a0_0, enc_bo, fun _ => true⟩ | _ => none
theorem hpc_b2 (fu : Nat) : ∀ f xs o, pcf_b2 fu f xs = some o → ∀ y, o.x = some y → Good E Try.prog f xs (o.g y) := by
  intro f xs o h
  unfold pcf_b2 at h
  split at h
  · exact good_a37 fu xs o h
  · cases h
theorem goodv_b2 (fu : Nat) (a_0 : Int) (y : Bool) (hy : F_impl_isAddress fu a_0 = some y) : Good E Try.prog 93 [(.int .i64 a_0)] (enc_bo y) :=
  fun_good E_ok (pc_good (pc := pc_b2 fu) (hpc_b2 fu) hpx0) (fn := Try.f93) (c := body_b2) (out := out_bo) (y := y) (by kernel_rfl) (by kernel_rfl) (by kernel_rfl) (lpok_b2 fu) (fun d hd => out_bo_enc d _ hd) ((ev_b2 fu a_0).trans hy)
theorem good_b2 (fu : Nat) : ∀ xs o, S_b2 fu xs = some o → ∀ y, o.x = some y → Good E Try.prog 93 xs (o.g y) := by
  intro xs o h y hy
  unfold S_b2 at h
  split at h
  · rename_i a0_0
    cases h
    exact goodv_b2 fu a0_0 y hy
  · cases h

/-! impl.isPort -/
def F_impl_isPort (fu : Nat) (n_0 : Int) : Option (Bool) :=
  ((F_impl_in fu n_0 0 65535).bind fun y341 => (some y341))
def pcf_b3 (fu : Nat) (f : Nat) (xs : List (D RT den)) : Option (Out RT den) := match f with | 72 => S_a37 fu xs | _ => none
def pc_b3 (fu : Nat) : Pc RT den := ⟨pcf_b3 fu, fun _ => false, fun _ => false, pcd0, pcx0⟩
def msk_b3 (b : Nat) : List Nat := []
def lp_b3 (fu : Nat) : Lp RT den (Bool) := fun b s k => none
theorem ev_b3 (fu : Nat) (n_0 : Int) : evFun E (pc_b3 fu) msk_b3 (lp_b3 fu) out_bo 132 [(.int .i64 n_0)] = F_impl_isPort fu n_0 := by kernel_rfl
noncomputable def body_b3 : Code := Try.f132.body.getD .skip
theorem lpok_b3 (fu : Nat) : LpOk E (pc_b3 fu) msk_b3 (lp_b3 fu) (loops 0 body_b3) := by
  have h : loops 0 body_b3 = [] := by kernel_rfl
  rw [h]; intro p hp; cases hp
def S_b3 (fu : Nat) (xs : List (D RT den)) : Option (Out RT den) := match xs with | [.int .i64 a0_0] => some ⟨Bool, F_impl_isPort fu a0_0, enc_bo, fun _ => true⟩ | _ => none
theorem hpc_b3 (fu : Nat) : ∀ f xs o, pcf_b3 fu f xs = some o → ∀ y, o.x = some y → Good E Try.prog f xs (o.g y) := by
  intro f xs o h
  unfold pcf_b3 at h
  split at h
  · exact good_a37 fu xs o h
  · cases h
theorem goodv_b3 (fu : Nat) (n_0 : Int) (y : Bool) (hy : F_impl_isPort fu n_0 = some y) : Good E Try.prog 132 [(.int .i64 n_0)] (enc_bo y) :=
  fun_good E_ok (pc_good (pc := pc_b3 fu) (hpc_b3 fu) hpx0) (fn := Try.f132) (c := body_b3) (out := out_bo) (y := y) (by kernel_rfl) (by kernel_rfl) (by kernel_rfl) (lpok_b3 fu) (fun d hd => out_bo_enc d _ hd) ((ev_b3 fu n_0).trans hy)
theorem good_b3 (fu : Nat) : ∀ xs o, S_b3 fu xs = some o → ∀ y, o.x = some y → Good E Try.prog 132 xs (o.g y) := by
  intro xs o h y hy
  unfold S_b3 at h
  split at h
  · rename_i a0_0
    cases h
    exact goodv_b3 fu a0_0 y hy
  · cases h

/-! impl.isNumber -/
def F_impl_isNumber (fu : Nat) (x_0 : S_impl_Cmd) : Option (Bool) :=
  (bif (x_0.Kind == 1) then ((F_impl_in fu x_0.Number 0 9).bind fun y336 => (some y336)) else (bif (x_0.Kind == 2) then ((F_impl_in fu x_0.Number 0 9).bind fun y337 => (some y337)) else
    (bif (x_0.Kind == 3) then ((F_impl_in fu x_0.Number 1 3).bind fun y338 => (some y338)) else (bif (x_0.Kind == 9) then ((F_impl_in fu x_0.Number 0 1).bind fun y339 => (some y339)) else
    ((F_impl_isPort fu x_0.Number).bind fun y340 => (some y340))))))
def pcf_b4 (fu : Nat) (f : Nat) (xs : List (D RT den)) : Option (Out RT den) := match f with | 72 => S_a37 fu xs | 132 => S_b3 fu xs | _ => none
def pc_b4 (fu : Nat) : Pc RT den := ⟨pcf_b4 fu, fun _ => false, fun _ => false, pcd0, pcx0⟩
def msk_b4 (b : Nat) : List Nat := []
def lp_b4 (fu : Nat) : Lp RT den (Bool) := fun b s k => none
theorem ev_b4 (fu : Nat) (x_0 : S_impl_Cmd) : evFun E (pc_b4 fu) msk_b4 (lp_b4 fu) out_bo 198 [(.agg [(.int .i64 x_0.Kind), (.int .i64 x_0.Expect), (.int .i64 x_0.Name), (.int .i64 x_0.Addr), (.int .i64 x_0.Number), (.int .i64 x_0.Proto)])] = F_impl_isNumber fu x_0 := by kernel_rfl
noncomputable def body_b4 : Code := Try.f198.body.getD .skip
theorem lpok_b4 (fu : Nat) : LpOk E (pc_b4 fu) msk_b4 (lp_b4 fu) (loops 0 body_b4) := by
  have h : loops 0 body_b4 = [] := by kernel_rfl
  rw [h]; intro p hp; cases hp
def S_b4 (fu : Nat) (xs : List (D RT den)) : Option (Out RT den) := match xs with | [.agg [.int .i64 a0_1, .int .i64 a0_2, .int .i64 a0_3, .int .i64 a0_4, .int .i64 a0_5, .int .i64 a0_6]] => some ⟨Bool, F_impl_isNumber fu (⟨a0_1, a0_2, a0_3, a0_4, a0_5, a0_6⟩ : S_impl_Cmd), enc_bo, fun _ => true⟩ | _ => none
theorem hpc_b4 (fu : Nat) : ∀ f xs o, pcf_b4 fu f xs = some o → ∀ y, o.x = some y → Good E Try.prog f xs (o.g y) := by
  intro f xs o h
  unfold pcf_b4 at h
  split at h
  · exact good_a37 fu xs o h
  · exact good_b3 fu xs o h
  · cases h
theorem goodv_b4 (fu : Nat) (x_0 : S_impl_Cmd) (y : Bool) (hy : F_impl_isNumber fu x_0 = some y) : Good E Try.prog 198 [(.agg [(.int .i64 x_0.Kind), (.int .i64 x_0.Expect), (.int .i64 x_0.Name), (.int .i64 x_0.Addr), (.int .i64 x_0.Number), (.int .i64 x_0.Proto)])] (enc_bo y) :=
  fun_good E_ok (pc_good (pc := pc_b4 fu) (hpc_b4 fu) hpx0) (fn := Try.f198) (c := body_b4) (out := out_bo) (y := y) (by kernel_rfl) (by kernel_rfl) (by kernel_rfl) (lpok_b4 fu) (fun d hd => out_bo_enc d _ hd) ((ev_b4 fu x_0).trans hy)
theorem good_b4 (fu : Nat) : ∀ xs o, S_b4 fu xs = some o → ∀ y, o.x = some y → Good E Try.prog 198 xs (o.g y) := by
  intro xs o h y hy
  unfold S_b4 at h
  split at h
  · rename_i a0_1 a0_2 a0_3 a0_4 a0_5 a0_6
    cases h
    exact goodv_b4 fu (⟨a0_1, a0_2, a0_3, a0_4, a0_5, a0_6⟩ : S_impl_Cmd) y hy
  · cases h

/-! impl.isProto -/
def F_impl_isProto (fu : Nat) (n_0 : Int) : Option (Bool) :=
  (((bif (n_0 == 6) then (some true) else (some (n_0 == 17))) : Option Bool).bind fun m342 => (some m342))
def pc_b5 (fu : Nat) : Pc RT den := ⟨pcf0, fun _ => false, fun _ => false, pcd0, pcx0⟩
def msk_b5 (b : Nat) : List Nat := match b with | 200001 => [2] | _ => []
def lp_b5 (fu : Nat) : Lp RT den (Bool) := fun b s k => none
theorem ev_b5 (fu : Nat) (n_0 : Int) : evFun E (pc_b5 fu) msk_b5 (lp_b5 fu) out_bo 133 [(.int .i64 n_0)] = F_impl_isProto fu n_0 := by kernel_rfl
noncomputable def body_b5 : Code := Try.f133.body.getD .skip
theorem lpok_b5 (fu : Nat) : LpOk E (pc_b5 fu) msk_b5 (lp_b5 fu) (loops 0 body_b5) := by
  have h : loops 0 body_b5 = [] := by kernel_rfl
  rw [h]; intro p hp; cases hp
def S_b5 (fu : Nat) (xs : List (D RT den)) : Option (Out RT den) := match xs with | [.int .i64 a0_0] => some ⟨Bool, F_impl_isProto fu a0_0, enc_bo, fun _ => true⟩ | _ => none
theorem goodv_b5 (fu : Nat) (n_0 : Int) (y : Bool) (hy : F_impl_isProto fu n_0 = some y) : Good E Try.prog 133 [(.int .i64 n_0)] (enc_bo y) :=
  fun_good E_ok (pc_good (pc := pc_b5 fu) hpc0 hpx0) (fn := Try.f133) (c := body_b5) (out := out_bo) (y := y) (by kernel_rfl) (by kernel_rfl) (by kernel_rfl) (lpok_b5 fu) (fun d hd => out_bo_enc d _ hd) ((ev_b5 fu n_0).trans hy)
theorem good_b5 (fu : Nat) : ∀ xs o, S_b5 fu xs = some o → ∀ y, o.x = some y → Good E Try.prog 133 xs (o.g y) := by
  intro xs o h y hy
  unfold S_b5 at h
  split at h
  · rename_i a0_0
    cases h
    exact goodv_b5 fu a0_0 y hy
  · cases h
end Go.Proofs.Ytmnbmponjhglcaa.Pc
