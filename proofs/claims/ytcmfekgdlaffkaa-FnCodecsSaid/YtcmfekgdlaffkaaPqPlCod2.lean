/- Commands in bytes, there and back. Conditions: none. -/
import Derived.Test.YtcmfekgdlaffkaaPqPlCod
namespace Go.Proofs.Ytcmfekgdlaffkaa.Pq
open Go Go.RowKit Go.Proofs Vm
set_option linter.unusedVariables false
set_option linter.unusedSimpArgs false
set_option maxRecDepth 100000
def cmdL (x : S_impl_Cmd) : List Int := (((([IntKind.wrap .u8 x.Kind] ++ byL (IntKind.wrap .i64 (x.Expect + 1)) 4 4) ++ byL x.Name 2 2) ++ byL x.Addr 4 4) ++ byL x.Number 2 2) ++ [IntKind.wrap .u8 x.Proto]
theorem cmdL_len (x : S_impl_Cmd) : (cmdL x).length = 14 := by simp [cmdL, byL_len]
theorem i_packCmd {g : Nat} (hg : 2000000 ≤ g) (x : S_impl_Cmd) : ∃ n f, F_impl_packCmd_H g x = some ⟨none, n, f⟩ ∧ Bs (cmdL x) n f := by
  have h0 := Bs.of_getD [IntKind.wrap .u8 x.Kind] 1 rfl
  have h1 := byF_bs h0 (IntKind.wrap .i64 (x.Expect + 1)) 4 4
  have h2 := byF_bs h1 x.Name 2 2
  have h3 := byF_bs h2 x.Addr 4 4
  have h4 := byF_bs h3 x.Number 2 2
  have h5 := h4.app (Bs.of_getD [IntKind.wrap .u8 x.Proto] 1 rfl)
  refine ⟨_, _, ?_, h5⟩
  unfold F_impl_packCmd_H
  rw [i_put4 hg (IntKind.wrap .i64 (x.Expect + 1)) 1 (by omega)]
  simp only [Option.bind_some]
  rw [i_put2 hg x.Name (1 + 4) (by omega)]
  simp only [Option.bind_some]
  rw [i_put4 hg x.Addr (1 + 4 + 2) (by omega)]
  simp only [Option.bind_some]
  rw [i_put2 hg x.Number (1 + 4 + 2 + 4) (by omega)]
  simp only [Option.bind_some]
  rw [fin_ok (show 1 + 4 + 2 + 4 + 2 + 1 ≤ 1000000000000 by omega), cond_true]
theorem s_packCmd {g : Nat} (hg : 2000000 ≤ g) (x : S_impl_Cmd) : ∃ n f, F_spec_l6Cmd_H g x = some ⟨none, n, f⟩ ∧ Bs (cmdL x) n f := by
  have h0 := Bs.of_getD [IntKind.wrap .u8 x.Kind] 1 rfl
  have h1 := h0.app (bs_Bytes (IntKind.wrap .i64 (x.Expect + 1)) 4)
  have h2 := h1.app (bs_Bytes x.Name 2)
  have h3 := h2.app (bs_Bytes x.Addr 4)
  have h4 := h3.app (bs_Bytes x.Number 2)
  have h5 := h4.app (Bs.of_getD [IntKind.wrap .u8 x.Proto] 1 rfl)
  refine ⟨_, _, ?_, h5⟩
  unfold F_spec_l6Cmd_H
  rw [s_Bytes4 hg (IntKind.wrap .i64 (x.Expect + 1)), s_Bytes2 hg x.Name, s_Bytes4 hg x.Addr, s_Bytes2 hg x.Number]
  simp only [Option.bind_some]
  rw [fin_ok (show 1 + 4 ≤ 1000000000000 by omega), fin_ok (show 1 + 4 + 2 ≤ 1000000000000 by omega), fin_ok (show 1 + 4 + 2 + 4 ≤ 1000000000000 by omega), fin_ok (show 1 + 4 + 2 + 4 + 2 ≤ 1000000000000 by omega), fin_ok (show 1 + 4 + 2 + 4 + 2 + 1 ≤ 1000000000000 by omega)]
  rfl
def uCmd (d : Sl Int) : S_impl_Cmd := ⟨d.f 0, be d.f 1 4 - 1, be d.f 5 2, be d.f 7 4, be d.f 11 2, d.f 13⟩
def badC : S_impl_CmdResult := ⟨5, ⟨0, 0, 0, 0, 0, 0⟩⟩
def cT (d : Sl Int) : S_impl_CmdResult := bif ((d.n : Nat) : Int) != 14 then badC else bif cmdf (uCmd d) != 0 then badC else ⟨0, uCmd d⟩
theorem be_off (f : Nat → Int) (a : Nat) : ∀ k, be (fun i => f (a + i)) 0 k = be f a k
  | 0 => rfl
  | k + 1 => by simp only [be, be_off f a k, Nat.zero_add]
theorem s_UnpackCmd {g : Nat} (hg : 2000000 ≤ g) {d : Sl Int} (hd : Byt d.n d.f) : F_spec_UnpackCmd g d = some (cT d) := by
  unfold F_spec_UnpackCmd cT
  cases h : (((d.n : Nat) : Int) != 14) with
  | true => rfl
  | false =>
    have hn : d.n = 14 := by have : ((d.n : Nat) : Int) = 14 := by simpa using h
                             omega
    have b0 := hd 0 (by omega)
    have b13 := hd 13 (by omega)
    have b1 := be_fit hd (a := 1) (k := 4) (by omega) (by omega)
    have t1 : F_spec_l1Take g d 1 4 = some (be d.f 1 4) := s_Take hg d hd (by omega) (a := 1) (k := 4) (by omega) (by omega)
    have t2 : F_spec_l1Take g d 5 2 = some (be d.f 5 2) := s_Take hg d hd (by omega) (a := 5) (k := 2) (by omega) (by omega)
    have t3 : F_spec_l1Take g d 7 4 = some (be d.f 7 4) := s_Take hg d hd (by omega) (a := 7) (k := 4) (by omega) (by omega)
    have t4 : F_spec_l1Take g d 11 2 = some (be d.f 11 2) := s_Take hg d hd (by omega) (a := 11) (k := 2) (by omega) (by omega)
    have w0 : IntKind.wrap .i64 (d.f 0) = d.f 0 := wrap64 (by omega) (by omega)
    have w13 : IntKind.wrap .i64 (d.f 13) = d.f 13 := wrap64 (by omega) (by omega)
    have w1 : IntKind.wrap .i64 (be d.f 1 4 - 1) = be d.f 1 4 - 1 := wrap64 (by omega) (by omega)
    have l0 : (decide (0 ≤ (0 : Int)) && decide ((Int.toNat 0) < d.n)) = true := by rw [hn]; rfl
    have l13 : (decide (0 ≤ (13 : Int)) && decide ((Int.toNat 13) < d.n)) = true := by rw [hn]; rfl
    rw [cond_false, cond_false, l0, t1, t2, t3, t4, l13]
    simp only [cond_true, Option.bind_some, show Int.toNat 0 = 0 from rfl, show Int.toNat 13 = 13 from rfl, w0, w13, w1, s_CmdFault]
    show (bif cmdf (uCmd d) != 0 then some badC else some ⟨0, uCmd d⟩) = _
    cases (cmdf (uCmd d) != 0) <;> rfl
theorem i_UnpackCmd {g : Nat} (hg : 2000000 ≤ g) {d : Sl Int} (hd : Byt d.n d.f) : F_impl_UnpackCmd g d = some (cT d) := by
  unfold F_impl_UnpackCmd cT
  cases h : (((d.n : Nat) : Int) != 14) with
  | true => rfl
  | false =>
    have hn : d.n = 14 := by have : ((d.n : Nat) : Int) = 14 := by simpa using h
                             omega
    have b0 := hd 0 (by omega)
    have b13 := hd 13 (by omega)
    have b1 := be_fit hd (a := 1) (k := 4) (by omega) (by omega)
    have nm : ∀ (a k : Nat), k ≤ 4 → a + k ≤ 14 → F_impl_number g ⟨d.z, k, fun i => d.f (a + i)⟩ = some (be d.f a k) := fun a k hk ha => by
      rw [i_number hg ⟨d.z, k, fun i => d.f (a + i)⟩ (fun i hi => hd (a + i) (by have hi : i < k := hi; omega)) hk]
      exact congrArg some (be_off d.f a k)
    have w0 : IntKind.wrap .i64 (d.f 0) = d.f 0 := wrap64 (by omega) (by omega)
    have w13 : IntKind.wrap .i64 (d.f 13) = d.f 13 := wrap64 (by omega) (by omega)
    have w1 : IntKind.wrap .i64 (be d.f 1 4 - 1) = be d.f 1 4 - 1 := wrap64 (by omega) (by omega)
    have l0 : (decide (0 ≤ (0 : Int)) && decide ((Int.toNat 0) < d.n)) = true := by rw [hn]; rfl
    have l13 : (decide (0 ≤ (13 : Int)) && decide ((Int.toNat 13) < d.n)) = true := by rw [hn]; rfl
    have l1 : (decide ((1 : Int) ≤ 5) && decide ((Int.toNat 5) ≤ d.n)) = true := by rw [hn]; rfl
    have l2 : (decide ((5 : Int) ≤ 7) && decide ((Int.toNat 7) ≤ d.n)) = true := by rw [hn]; rfl
    have l3 : (decide ((7 : Int) ≤ 11) && decide ((Int.toNat 11) ≤ d.n)) = true := by rw [hn]; rfl
    have l4 : (decide ((11 : Int) ≤ 13) && decide ((Int.toNat 13) ≤ d.n)) = true := by rw [hn]; rfl
    have n1 : F_impl_number g ⟨d.z, (Int.toNat 5) - 1, fun i => d.f (1 + i)⟩ = some (be d.f 1 4) := nm 1 4 (by omega) (by omega)
    have n2 : F_impl_number g ⟨d.z, (Int.toNat 7) - 5, fun i => d.f (5 + i)⟩ = some (be d.f 5 2) := nm 5 2 (by omega) (by omega)
    have n3 : F_impl_number g ⟨d.z, (Int.toNat 11) - 7, fun i => d.f (7 + i)⟩ = some (be d.f 7 4) := nm 7 4 (by omega) (by omega)
    have n4 : F_impl_number g ⟨d.z, (Int.toNat 13) - 11, fun i => d.f (11 + i)⟩ = some (be d.f 11 2) := nm 11 2 (by omega) (by omega)
    rw [cond_false, cond_false, l0, l1, n1, l2, n2, l3, n3, l4, n4, l13]
    simp only [cond_true, Option.bind_some, show Int.toNat 0 = 0 from rfl, show Int.toNat 13 = 13 from rfl, w0, w13, w1, i_CmdFault]
    show (bif cmdf (uCmd d) != 0 then some badC else some ⟨0, uCmd d⟩) = _
    cases (cmdf (uCmd d) != 0) <;> rfl
theorem byL_be2 {f : Nat → Int} {a : Nat} (h0 : 0 ≤ f a ∧ f a ≤ 255) (h1 : 0 ≤ f (a + 1) ∧ f (a + 1) ≤ 255) : byL (be f a 2) 2 2 = [f a, f (a + 1)] := by
  rw [byL2]
  have e : be f a 2 = f a * 256 + f (a + 1) := by simp [be]
  rw [e]
  congr 1
  · omega
  · congr 1
    omega
theorem byL_be4 {f : Nat → Int} {a : Nat} (h0 : 0 ≤ f a ∧ f a ≤ 255) (h1 : 0 ≤ f (a + 1) ∧ f (a + 1) ≤ 255) (h2 : 0 ≤ f (a + 2) ∧ f (a + 2) ≤ 255) (h3 : 0 ≤ f (a + 3) ∧ f (a + 3) ≤ 255) : byL (be f a 4) 4 4 = [f a, f (a + 1), f (a + 2), f (a + 3)] := by
  rw [byL4]
  have e : be f a 4 = ((f a * 256 + f (a + 1)) * 256 + f (a + 2)) * 256 + f (a + 3) := by simp [be]
  rw [e]
  congr 1
  · omega
  · congr 1
    · omega
    · congr 1
      · omega
      · congr 1
        omega
theorem cmd_back {d : Sl Int} (hd : Byt d.n d.f) (hn : d.n = 14) : cmdL (uCmd d) = rowL d := by
  have b := fun i (hi : i < 14) => hd i (by omega)
  have b1 := be_fit hd (a := 1) (k := 4) (by omega) (by omega)
  have w : IntKind.wrap .i64 ((be d.f 1 4 - 1) + 1) = be d.f 1 4 := by rw [wrap64 (by omega) (by omega)]; omega
  have e0 : IntKind.wrap .u8 (d.f 0) = d.f 0 := by have := b 0 (by omega); rw [wu8]; omega
  have e13 : IntKind.wrap .u8 (d.f 13) = d.f 13 := by have := b 13 (by omega); rw [wu8]; omega
  unfold cmdL uCmd rowL
  dsimp only
  rw [w, e0, e13, byL_be4 (b 1 (by omega)) (b 2 (by omega)) (b 3 (by omega)) (b 4 (by omega)), byL_be2 (b 5 (by omega)) (b 6 (by omega)), byL_be4 (b 7 (by omega)) (b 8 (by omega)) (b 9 (by omega)) (b 10 (by omega)), byL_be2 (b 11 (by omega)) (b 12 (by omega)), hn]
  rfl
theorem cmd_read {d : Sl Int} {x : S_impl_Cmd} (h : cmdf x = 0) (hB : Bs (cmdL x) d.n d.f) : d.n = 14 ∧ uCmd d = x := by
  have k := cmd_fit h
  have hn : d.n = 14 := by rw [hB.len, cmdL_len]
  have h0 : At d 0 (cmdL x) := ⟨by rw [hB.len]; omega, fun i hi => by rw [Nat.zero_add]; exact hB.at_ i (by rw [hB.len]; exact hi)⟩
  unfold cmdL at h0
  have t0 := h0.left.left.left.left.left
  have t1 := h0.left.left.left.left.right
  have t2 := h0.left.left.left.right
  have t3 := h0.left.left.right
  have t4 := h0.left.right
  have t5 := h0.right
  simp only [List.length_append, byL_len, List.length_cons, List.length_nil, Nat.zero_add] at t1 t2 t3 t4 t5
  have hE : IntKind.wrap .i64 (x.Expect + 1) = x.Expect + 1 := by have := k.expect; exact wrap64 (by omega) (by omega)
  rw [hE] at t1
  have v0 : d.f 0 = x.Kind := by
    have := t0.2 0 (by simp)
    have e : d.f 0 = IntKind.wrap .u8 x.Kind := by simpa using this
    have := k.kind
    rw [e, wu8]; omega
  have v5 : d.f 13 = x.Proto := by
    have := t5.2 0 (by simp)
    have e : d.f 13 = IntKind.wrap .u8 x.Proto := by simpa using this
    have := k.proto
    rw [e, wu8]; omega
  have r1 := rd4 t1 (by have := k.expect; omega) (by have := k.expect; omega)
  have r2 := rd2 t2 k.name.1 (by have := k.name; omega)
  have r3 := rd4 t3 k.addr.1 k.addr.2
  have r4 := rd2 t4 k.number.1 k.number.2
  rw [rd_go (by omega)] at r1 r2 r3 r4
  refine ⟨hn, ?_⟩
  unfold uCmd
  have e1 : be d.f 1 4 = x.Expect + 1 := congrArg Prod.fst r1
  have e2 : be d.f 5 2 = x.Name := congrArg Prod.fst r2
  have e3 : be d.f 7 4 = x.Addr := congrArg Prod.fst r3
  have e4 : be d.f 11 2 = x.Number := congrArg Prod.fst r4
  rw [v0, v5, e1, e2, e3, e4]
  obtain ⟨a, b, c, e, f, g⟩ := x
  simp
end Go.Proofs.Ytcmfekgdlaffkaa.Pq
