/- Heads, packets, and what may go out. Conditions: none. -/
import Derived.Test.YtcmfekgdlaffkaaPmPlSum
import Derived.Test.YtcmfekgdlaffkaaPmPlMux
namespace Go.Proofs.Ytcmfekgdlaffkaa.Pm
open Go Go.RowKit Go.Proofs Vm
set_option linter.unusedVariables false
set_option linter.unusedSimpArgs false
set_option maxRecDepth 100000

/-! ### Heads -/
theorem fin_okB {n : Nat} (h : n ≤ 1000000000000) : (decide (n ≤ 9223372036854775807) && decide (n * 1 ≤ 140737488355328)) = true := by
  simp only [Bool.and_eq_true, decide_eq_true_eq]; omega
theorem wrapU8 (x : Int) : 0 ≤ IntKind.wrap .u8 x ∧ IntKind.wrap .u8 x ≤ 255 := by
  have : IntKind.wrap .u8 x = x % 256 := by simp [IntKind.wrap, IntKind.bits, IntKind.signed]
  rw [this]; omega
def BytL (L : List Int) : Prop := ∀ x ∈ L, 0 ≤ x ∧ x ≤ 255
theorem byL_byt (v : Int) (k i : Nat) : BytL (byL v k i) := fun x hx => by
  simp only [byL, List.mem_map] at hx
  obtain ⟨j, _, rfl⟩ := hx
  exact wrapU8 _
theorem BytL.app {L M : List Int} (h : BytL L) (k : BytL M) : BytL (L ++ M) := fun x hx => (List.mem_append.1 hx).elim (h x) (k x)
theorem Bs.byt {L : List Int} {n : Nat} {f : Nat → Int} (h : Bs L n f) (hL : BytL L) : Byt n f := fun i hi => by
  rw [h.at_ i hi, List.getD_eq_getElem?_getD, List.getElem?_eq_getElem (by rw [← h.len]; exact hi), Option.getD_some]
  exact hL _ (List.getElem_mem _)
def headL (proto n : Int) : List Int := ([69, 0] ++ byL (IntKind.wrap .i64 (20 + n)) 2 2) ++ [0, 0, 0, 0, 64, IntKind.wrap .u8 proto]
def endsL (fr to' : Int) : List Int := byL fr 4 4 ++ byL to' 4 4
def bareL (proto fr to' n : Int) : List Int := (headL proto n ++ [0, 0]) ++ endsL fr to'
def fullL (proto fr to' n s : Int) : List Int := (headL proto n ++ byL s 2 2) ++ endsL fr to'
theorem headL_len (proto n : Int) : (headL proto n).length = 10 := by simp [headL, byL_len]
theorem endsL_len (fr to' : Int) : (endsL fr to').length = 8 := by simp [endsL, byL_len]
theorem headL_byt (proto n : Int) : BytL (headL proto n) := by
  have h0 : BytL [69, 0] := fun x hx => by
    simp only [List.mem_cons, List.not_mem_nil, or_false] at hx
    rcases hx with rfl | rfl <;> omega
  refine (h0.app (byL_byt _ _ _)).app (fun x hx => ?_)
  · simp only [List.mem_cons, List.not_mem_nil, or_false] at hx
    rcases hx with rfl | rfl | rfl | rfl | rfl | rfl <;> first | omega | exact wrapU8 _
theorem bareL_byt (proto fr to' n : Int) : BytL (bareL proto fr to' n) := by
  refine ((headL_byt _ _).app (fun x hx => ?_)).app ((byL_byt _ _ _).app (byL_byt _ _ _))
  simp only [List.mem_cons, List.not_mem_nil, or_false] at hx
  rcases hx with rfl | rfl <;> omega
/-- The sum of a head. -/
def headS (proto fr to' n : Int) : Int := sumV ⟨none, 20, fun i => (bareL proto fr to' n).getD i 0⟩
theorem bare_len (proto fr to' n : Int) : (bareL proto fr to' n).length = 20 := by simp [bareL, headL_len, endsL_len]
theorem sumV_bs {L : List Int} {n : Nat} {f : Nat → Int} {z : Option Bool} (h : Bs L n f) : sumV ⟨z, n, f⟩ = sumV ⟨none, n, fun i => L.getD i 0⟩ := by
  unfold sumV
  simp only
  rw [sumK_congr (f := f) (g := fun i => L.getD i 0) (fun i hi => h.at_ i hi) _ (by omega)]
theorem s_SumL {g : Nat} (hg : 2000000 ≤ g) {L : List Int} {n : Nat} {f : Nat → Int} (h : Bs L n f) (hL : BytL L) (hn : n ≤ 1048576) : F_spec_SumWords g ⟨none, n, f⟩ = some (sumV ⟨none, n, fun i => L.getD i 0⟩) := by
  rw [s_Sum hg (x := ⟨none, n, f⟩) (h.byt hL) hn, sumV_bs h]
theorem i_SumL (g : Nat) {L : List Int} {n : Nat} {f : Nat → Int} (h : Bs L n f) (hL : BytL L) (hn : n ≤ 1048576) : F_impl_SumWords g ⟨none, n, f⟩ = some (sumV ⟨none, n, fun i => L.getD i 0⟩) := by
  rw [i_Sum g (x := ⟨none, n, f⟩) (h.byt hL) hn, sumV_bs h]
theorem s_Head {g : Nat} (hg : 2000000 ≤ g) (proto fr to' n : Int) : ∃ f, F_spec_l2Head_H g proto fr to' n = some ⟨none, 20, f⟩ ∧ Bs (fullL proto fr to' n (headS proto fr to' n)) 20 f := by
  have h0 : Bs [69, 0] 2 (fun i => ([69, 0] : List Int).getD i (dflt .u8)) := Bs.of_getD [69, 0] 2 rfl
  have h1 := h0.app (bs_Bytes (IntKind.wrap .i64 (20 + n)) 2)
  have h2 := h1.app (Bs.of_getD [0, 0, 0, 0, 64, IntKind.wrap .u8 proto] 6 rfl)
  have h3 := h2.app (Bs.of_getD [0, 0] 2 rfl)
  have he := (bs_Bytes fr 4).app (bs_Bytes to' 4)
  have hb := h3.app he
  have hS := s_SumL hg (L := bareL proto fr to' n) hb (bareL_byt _ _ _ _) (by omega)
  unfold F_spec_l2Head_H
  simp only [s_Bytes2 hg, s_Bytes4 hg, Option.bind_some, fin_okB (show 2 + 2 ≤ 1000000000000 by omega), fin_okB (show 2 + 2 + 6 ≤ 1000000000000 by omega), fin_okB (show 4 + 4 ≤ 1000000000000 by omega), fin_okB (show 2 + 2 + 6 + 2 ≤ 1000000000000 by omega), fin_okB (show 2 + 2 + 6 + 2 + (4 + 4) ≤ 1000000000000 by omega), cond_true]
  rw [hS]
  simp only [Option.bind_some, s_Bytes2 hg, fin_okB (show 2 + 2 + 6 + 2 ≤ 1000000000000 by omega), fin_okB (show 2 + 2 + 6 + 2 + (4 + 4) ≤ 1000000000000 by omega), cond_true]
  exact ⟨_, rfl, (h2.app (bs_Bytes (headS proto fr to' n) 2)).app he⟩
theorem i_Head {g : Nat} (hg : 2000000 ≤ g) (proto fr to' n : Int) : ∃ f, F_impl_head_H g proto fr to' n = some ⟨none, 20, f⟩ ∧ Bs (fullL proto fr to' n (headS proto fr to' n)) 20 f := by
  have h0 : Bs [69, 0] 2 (fun i => ([69, 0] : List Int).getD i (dflt .u8)) := Bs.of_getD [69, 0] 2 rfl
  have h1 := byF_bs h0 (IntKind.wrap .i64 (20 + n)) 2 2
  have h2 := h1.app (Bs.of_getD [0, 0, 0, 0, 64, IntKind.wrap .u8 proto, 0, 0] 8 rfl)
  have h3 := byF_bs h2 fr 4 4
  have h4 := byF_bs h3 to' 4 4
  have e : ((([69, 0] ++ byL (IntKind.wrap .i64 (20 + n)) 2 2) ++ [0, 0, 0, 0, 64, IntKind.wrap .u8 proto, 0, 0]) ++ byL fr 4 4) ++ byL to' 4 4 = bareL proto fr to' n := by simp [bareL, headL, endsL]
  rw [e] at h4
  have hS := i_SumL g h4 (bareL_byt _ _ _ _) (by omega)
  have e0 : F_impl_put_G g 2 (IntKind.wrap .i64 (20 + n)) 2 2 (fun i => ([69, 0] : List Int).getD i (dflt .u8)) = _ := i_put2 hg _ 2 (by omega) _
  unfold F_impl_head_H
  rw [e0]
  simp only [Option.bind_some, fin_okB (show 2 + 2 + 8 ≤ 1000000000000 by omega), cond_true]
  rw [i_put4 hg _ (2 + 2 + 8) (by omega)]
  simp only [Option.bind_some]
  rw [i_put4 hg _ (2 + 2 + 8 + 4) (by omega)]
  simp only [Option.bind_some]
  rw [hS]
  have e5 : F_impl_put_G g 0 (sumV ⟨none, 2 + 2 + 8 + 4 + 4, fun i => (bareL proto fr to' n).getD i 0⟩) 2 0 (fun _ => dflt .u8) = _ := i_put2 hg _ 0 (by omega) _
  simp only [Option.bind_some]
  rw [e5]
  simp only [Option.bind_some]
  have c1 : (decide ((0 : Int) ≤ 10) && (decide ((10 : Int) ≤ 12) && decide (Int.toNat 12 ≤ 2 + 2 + 8 + 4 + 4))) = true := rfl
  rw [c1]
  simp only [cond_true, Option.bind_some]
  refine ⟨_, rfl, ?_⟩
  have hs := byF_bs (Bs.nil (fun _ => dflt .u8)) (headS proto fr to' n) 2 2
  refine ⟨by simp [fullL, headL_len, endsL_len, byL_len], fun i hi => ?_⟩
  have hm : (10 + min (0 + 2) (Int.toNat 12 - 10)) = 12 := rfl
  simp only [hm]
  rw [List.getD_eq_getElem?_getD]
  have l1 : (headL proto n ++ [0, 0]).length = 12 := by simp [headL_len]
  have l2 : (headL proto n ++ byL (headS proto fr to' n) 2 2).length = 12 := by simp [headL_len, byL_len]
  by_cases h10 : i < 10
  · rw [if_neg (by omega), h4.at_ i hi, List.getD_eq_getElem?_getD]
    unfold bareL fullL
    rw [List.getElem?_append_left (by first | (rw [l1]; omega) | (rw [l2]; omega) | (rw [headL_len]; omega) | (rw [byL_len]; omega)), List.getElem?_append_left (by first | (rw [l1]; omega) | (rw [l2]; omega) | (rw [headL_len]; omega) | (rw [byL_len]; omega)), List.getElem?_append_left (by first | (rw [l1]; omega) | (rw [l2]; omega) | (rw [headL_len]; omega) | (rw [byL_len]; omega)), List.getElem?_append_left (by first | (rw [l1]; omega) | (rw [l2]; omega) | (rw [headL_len]; omega) | (rw [byL_len]; omega))]
  · by_cases h12 : i < 12
    · rw [if_pos (by omega)]
      refine Eq.trans (hs.at_ (i - 10) (by omega)) ?_
      rw [List.nil_append, List.getD_eq_getElem?_getD]
      unfold fullL
      rw [List.getElem?_append_left (l₁ := headL proto n ++ byL (headS proto fr to' n) 2 2) (by first | (rw [l1]; omega) | (rw [l2]; omega) | (rw [headL_len]; omega) | (rw [byL_len]; omega)), List.getElem?_append_right (l₁ := headL proto n) (by first | (rw [l1]; omega) | (rw [l2]; omega) | (rw [headL_len]; omega) | (rw [byL_len]; omega)), headL_len]
    · rw [if_neg (by omega), h4.at_ i hi, List.getD_eq_getElem?_getD]
      unfold bareL fullL
      rw [List.getElem?_append_right (l₁ := headL proto n ++ [0, 0]) (by first | (rw [l1]; omega) | (rw [l2]; omega) | (rw [headL_len]; omega) | (rw [byL_len]; omega)), List.getElem?_append_right (l₁ := headL proto n ++ byL (headS proto fr to' n) 2 2) (by first | (rw [l1]; omega) | (rw [l2]; omega) | (rw [headL_len]; omega) | (rw [byL_len]; omega)), l1, l2]
def wrapL (fr to' : Int) (d : Sl Int) : List Int := (fullL 47 fr to' (IntKind.wrap .i64 (4 + ((d.n : Nat) : Int))) (headS 47 fr to' (IntKind.wrap .i64 (4 + ((d.n : Nat) : Int)))) ++ [0, 0, 8, 0]) ++ (List.range d.n).map d.f
theorem s_Wrap {g : Nat} (hg : 2000000 ≤ g) (fr to' : Int) (d : Sl Int) (hn : d.n ≤ 1048576) : ∃ n f, F_spec_l2Wrap_H g fr to' d = some ⟨none, n, f⟩ ∧ Bs (wrapL fr to' d) n f := by
  obtain ⟨f, e, h⟩ := s_Head hg 47 fr to' (IntKind.wrap .i64 (4 + ((d.n : Nat) : Int)))
  unfold F_spec_l2Wrap_H
  rw [e]
  simp only [Option.bind_some, fin_okB (show 20 + 4 ≤ 1000000000000 by omega), fin_okB (show 20 + 4 + d.n ≤ 1000000000000 by omega), cond_true]
  exact ⟨_, _, rfl, (h.app (Bs.of_getD [0, 0, 8, 0] 4 rfl)).app (bs_self d.n d.f)⟩
theorem i_Wrap {g : Nat} (hg : 2000000 ≤ g) (fr to' : Int) (d : Sl Int) (hn : d.n ≤ 1048576) : ∃ n f, F_impl_wrap_H g fr to' d = some ⟨none, n, f⟩ ∧ Bs (wrapL fr to' d) n f := by
  obtain ⟨f, e, h⟩ := i_Head hg 47 fr to' (IntKind.wrap .i64 (4 + ((d.n : Nat) : Int)))
  unfold F_impl_wrap_H F_impl_size_byte
  simp only [Option.bind_some]
  rw [e]
  simp only [Option.bind_some, fin_okB (show 20 + 4 ≤ 1000000000000 by omega), fin_okB (show 20 + 4 + d.n ≤ 1000000000000 by omega), cond_true]
  exact ⟨_, _, rfl, (h.app (Bs.of_getD [0, 0, 8, 0] 4 rfl)).app (bs_self d.n d.f)⟩

/-! ### Packets -/
def pack0 : S_impl_Packet := ⟨0, 0, 0, 0, 0, ⟨some true, 0, fun _ => dflt .u8⟩⟩
def parseT (d : Sl Int) : S_impl_PacketResult :=
  bif !rng d.n 24 224 || ((d.f 0 != 69) || (be d.f 2 2 != (d.n : Int))) then ⟨5, pack0⟩ else
  bif !(sumV ⟨d.z, 20, fun i => d.f (0 + i)⟩ == 0) then ⟨6, pack0⟩ else
  bif (d.f 6 != 0) || ((d.f 7 != 0) || !protoOk (d.f 9)) then ⟨1, pack0⟩ else
  ⟨0, ⟨be d.f 12 4, be d.f 16 4, d.f 9, be d.f 20 2, be d.f 22 2, ⟨none, d.n - 24, fun i => d.f (24 + i)⟩⟩⟩
theorem rng_len {n : Nat} (h : rng (n : Int) 24 224 = true) : 24 ≤ n ∧ n ≤ 224 := by
  unfold rng at h
  simp only [Bool.and_eq_true, decide_eq_true_eq] at h
  omega
theorem i_num {g : Nat} (hg : 2000000 ≤ g) {d : Sl Int} (hd : Byt d.n d.f) (a k n : Nat) (hn : n = k) (hk : k ≤ 4) (ha : a + k ≤ d.n) : F_impl_number g ⟨d.z, n, fun i => d.f (a + i)⟩ = some (be d.f a k) := by
  subst hn
  rw [i_number hg ⟨d.z, n, fun i => d.f (a + i)⟩ (fun i hi => hd _ (by simp only at hi; omega)) hk]
  simp only [Option.some.injEq]
  exact be_congr _ (fun i hi => by simp only [Nat.zero_add])
theorem i_Parse {g : Nat} (hg : 2000000 ≤ g) {d : Sl Int} (hd : Byt d.n d.f) (hn : d.n ≤ 1048576) : F_impl_ParsePacket_H g d = some (parseT d) := by
  unfold F_impl_ParsePacket_H parseT F_impl_size_byte
  simp only [Option.bind_some, p_in]
  cases hr : rng (d.n : Int) 24 224 with
  | false => simp [pack0]
  | true =>
    obtain ⟨n0, n1⟩ := rng_len hr
    have a0 : (decide (0 ≤ (0 : Int)) && decide (Int.toNat 0 < d.n)) = true := by simp; omega
    have a1 : (decide ((2 : Int) ≤ 4) && decide (Int.toNat 4 ≤ d.n)) = true := by simp; omega
    have a2 : (decide ((0 : Int) ≤ 20) && decide (Int.toNat 20 ≤ d.n)) = true := by simp; omega
    have a3 : (decide (0 ≤ (6 : Int)) && decide (Int.toNat 6 < d.n)) = true := by simp; omega
    have a4 : (decide (0 ≤ (7 : Int)) && decide (Int.toNat 7 < d.n)) = true := by simp; omega
    have a5 : (decide (0 ≤ (9 : Int)) && decide (Int.toNat 9 < d.n)) = true := by simp; omega
    have a6 : (decide ((12 : Int) ≤ 16) && decide (Int.toNat 16 ≤ d.n)) = true := by simp; omega
    have a7 : (decide ((16 : Int) ≤ 20) && decide (Int.toNat 20 ≤ d.n)) = true := by simp; omega
    have a8 : (decide ((20 : Int) ≤ 22) && decide (Int.toNat 22 ≤ d.n)) = true := by simp; omega
    have a9 : (decide ((22 : Int) ≤ 24) && decide (Int.toNat 24 ≤ d.n)) = true := by simp; omega
    have aa : (decide ((24 : Int) ≤ ((d.n : Nat) : Int)) && decide (d.n ≤ d.n)) = true := by simp; omega
    have ab : (decide (d.n - 24 ≤ 9223372036854775807) && decide ((d.n - 24) * 1 ≤ 140737488355328)) = true := by simp; omega
    have b0 := i_num hg hd 2 2 (Int.toNat 4 - 2) rfl (by omega) (by omega)
    have b1 := i_num hg hd 12 4 (Int.toNat 16 - 12) rfl (by omega) (by omega)
    have b2 := i_num hg hd 16 4 (Int.toNat 20 - 16) rfl (by omega) (by omega)
    have b3 := i_num hg hd 20 2 (Int.toNat 22 - 20) rfl (by omega) (by omega)
    have b4 := i_num hg hd 22 2 (Int.toNat 24 - 22) rfl (by omega) (by omega)
    have bs : F_impl_WholeSum g ⟨d.z, Int.toNat 20 - 0, fun i => d.f (0 + i)⟩ = some (sumV ⟨d.z, 20, fun i => d.f (0 + i)⟩ == 0) := by
      unfold F_impl_WholeSum
      rw [i_Sum g (x := ⟨d.z, Int.toNat 20 - 0, fun i => d.f (0 + i)⟩) (fun i hi => hd _ (by have : i < 20 := hi; omega)) (by simp only; omega)]
      rfl
    have c9 := hd 9 (by omega)
    have w9 : IntKind.wrap .i64 (d.f (Int.toNat 9)) = d.f 9 := Vm.wrap64 (by have := c9.1; show -9223372036854775808 ≤ d.f 9; omega) (by have := c9.2; show d.f 9 ≤ 9223372036854775807; omega)
    unfold F_slices_Clone_byte_byte_H
    simp only [a0, a1, a2, a3, a4, a5, a6, a7, a8, a9, aa, ab, b0, b1, b2, b3, b4, bs, w9, i_isProto, Bool.not_true, cond_false, cond_true, Option.bind_some, Bool.false_or]
    simp only [show Int.toNat 0 = 0 from rfl, show Int.toNat 6 = 6 from rfl, show Int.toNat 7 = 7 from rfl]
    cases h0 : (d.f 0 != 69) with
    | true => rfl
    | false =>
      simp only [cond_false, Bool.false_or, Option.bind_some]
      cases h1 : (be d.f 2 2 != (d.n : Int)) with
      | true => rfl
      | false =>
        simp only [cond_false]
        cases hs : (sumV ⟨d.z, 20, fun i => d.f (0 + i)⟩ == 0) with
        | false => rfl
        | true =>
          simp only [Bool.not_true, cond_false]
          cases h6 : (d.f 6 != 0) with
          | true => rfl
          | false =>
            simp only [cond_false, Bool.false_or, Option.bind_some]
            cases h7 : (d.f 7 != 0) with
            | true => rfl
            | false =>
              simp only [cond_false, Bool.false_or, Option.bind_some]
              cases hp : protoOk (d.f 9) <;> rfl
theorem s_TakeN {g : Nat} (hg : 2000000 ≤ g) {d : Sl Int} (hd : Byt d.n d.f) (hn : d.n ≤ 1048576) (a k : Nat) (hk : k ≤ 4) (ha : a + k ≤ d.n) (A K : Int) (hA : A = (a : Int)) (hK : K = (k : Int)) : F_spec_l1Take g d A K = some (be d.f a k) := by
  subst hA hK
  exact s_Take hg d hd hn hk ha
theorem s_Parse {g : Nat} (hg : 2000000 ≤ g) {d : Sl Int} (hd : Byt d.n d.f) (hn : d.n ≤ 1048576) : F_spec_ParsePacket g d = some (parseT d) := by
  unfold F_spec_ParsePacket parseT
  simp only [Option.bind_some, p_l1In]
  cases hr : rng (d.n : Int) 24 224 with
  | false => simp [pack0]
  | true =>
    obtain ⟨n0, n1⟩ := rng_len hr
    have a0 : (decide (0 ≤ (0 : Int)) && decide (Int.toNat 0 < d.n)) = true := by simp; omega
    have a2 : (decide ((0 : Int) ≤ 20) && decide (Int.toNat 20 ≤ d.n)) = true := by simp; omega
    have a3 : (decide (0 ≤ (6 : Int)) && decide (Int.toNat 6 < d.n)) = true := by simp; omega
    have a4 : (decide (0 ≤ (7 : Int)) && decide (Int.toNat 7 < d.n)) = true := by simp; omega
    have a5 : (decide (0 ≤ (9 : Int)) && decide (Int.toNat 9 < d.n)) = true := by simp; omega
    have aa : (decide ((24 : Int) ≤ ((d.n : Nat) : Int)) && decide (d.n ≤ d.n)) = true := by simp; omega
    have ab : (decide (d.n - 24 ≤ 9223372036854775807) && decide ((d.n - 24) * 1 ≤ 140737488355328)) = true := by simp; omega
    have b0 := s_TakeN hg hd hn 2 2 (by omega) (by omega) 2 2 rfl rfl
    have b1 := s_TakeN hg hd hn 12 4 (by omega) (by omega) 12 4 rfl rfl
    have b2 := s_TakeN hg hd hn 16 4 (by omega) (by omega) 16 4 rfl rfl
    have b3 := s_TakeN hg hd hn 20 2 (by omega) (by omega) 20 2 rfl rfl
    have b4 := s_TakeN hg hd hn 22 2 (by omega) (by omega) 22 2 rfl rfl
    have bs : F_spec_WholeSum g ⟨d.z, Int.toNat 20 - 0, fun i => d.f (0 + i)⟩ = some (sumV ⟨d.z, 20, fun i => d.f (0 + i)⟩ == 0) := by
      unfold F_spec_WholeSum
      rw [s_Sum hg (x := ⟨d.z, Int.toNat 20 - 0, fun i => d.f (0 + i)⟩) (fun i hi => hd _ (by have : i < 20 := hi; omega)) (by simp only; omega)]
      rfl
    have c9 := hd 9 (by omega)
    have w9 : IntKind.wrap .i64 (d.f (Int.toNat 9)) = d.f 9 := Vm.wrap64 (by have := c9.1; show -9223372036854775808 ≤ d.f 9; omega) (by have := c9.2; show d.f 9 ≤ 9223372036854775807; omega)
    simp only [a0, a2, a3, a4, a5, aa, ab, b0, b1, b2, b3, b4, bs, w9, Bool.not_true, cond_false, cond_true, Option.bind_some, Bool.false_or]
    simp only [show Int.toNat 0 = 0 from rfl, show Int.toNat 6 = 6 from rfl, show Int.toNat 7 = 7 from rfl, show Int.toNat 9 = 9 from rfl]
    cases h0 : (d.f 0 != 69) with
    | true => rfl
    | false =>
      simp only [cond_false, Bool.false_or, Option.bind_some]
      cases h1 : (be d.f 2 2 != (d.n : Int)) with
      | true => rfl
      | false =>
        simp only [cond_false]
        cases hs : (sumV ⟨d.z, 20, fun i => d.f (0 + i)⟩ == 0) with
        | false => rfl
        | true =>
          simp only [Bool.not_true, cond_false]
          cases h6 : (d.f 6 != 0) with
          | true => rfl
          | false =>
            simp only [cond_false, Bool.false_or, Option.bind_some]
            cases h7 : (d.f 7 != 0) with
            | true => rfl
            | false =>
              simp only [cond_false, Bool.false_or, Option.bind_some, protoOk, bne]
              cases (d.f 9 == 6) <;> cases (d.f 9 == 17) <;> rfl

end Go.Proofs.Ytcmfekgdlaffkaa.Pm
