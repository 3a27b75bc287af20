/- Numbers in decimal: strconv.FormatInt at base 10 by the library's contract, the program's decimal over it, and the reference's l2Digits, which calls itself. Conditions: numbers from 0 to 9223372036854775807; the table of powers lies as the program lays it. -/
import Derived.Shelf.Strconv.Itoa0
import Derived.Shelf.Strconv.Itoa1
import Derived.Shelf.LaysM
import Derived.Shelf.Strconv.Itoa2
import Derived.Shelf.Strconv.Itoa3
import Derived.Shelf.Abstract
import Derived.WalkKit
import Derived.Lib.QuietBelow
import Derived.KernelRfl
import Derived.Test.YtcmfekgdlaffkaaGreatDoorPxT
namespace Go.Proofs
open Go.Shelf
def Tryz.laysM246_ren : Go.Shelf.Ren := ⟨fun | 246 => 104 | 283 => 120 | 284 => 121 | 285 => 122 | 286 => 123 | 129 => 129 | 317 => 128 | 318 => 130 | 319 => 131 | 320 => 132 | 337 => 135 | 338 => 136 | n => n, fun | 2 => 2 | 3 => 3 | 9 => 9 | 4 => 4 | 171 => 156 | 0 => 0 | 53 => 157 | 37 => 76 | 5 => 5 | 173 => 160 | 212 => 165 | 51 => 166 | 20 => 20 | 213 => 167 | 46 => 102 | 232 => 171 | 233 => 172 | n => n, fun | 17 => 0 | 18 => 1 | 19 => 2 | n => n⟩
theorem Tryz.laysM246 : Go.Proofs.LaysM.n246 Tryz.prog Tryz.laysM246_ren := {
  mixed := by kernel_rfl
  f129 := Tryz.func129.trans (congrArg some (by kernel_rfl))
  f246 := Tryz.func104.trans (congrArg some (by kernel_rfl))
  f283 := Tryz.func120.trans (congrArg some (by kernel_rfl))
  f284 := Tryz.func121.trans (congrArg some (by kernel_rfl))
  f285 := Tryz.func122.trans (congrArg some (by kernel_rfl))
  f286 := Tryz.func123.trans (congrArg some (by kernel_rfl))
  f317 := Tryz.func128.trans (congrArg some (by kernel_rfl))
  f318 := Tryz.func130.trans (congrArg some (by kernel_rfl))
  f319 := Tryz.func131.trans (congrArg some (by kernel_rfl))
  f320 := Tryz.func132.trans (congrArg some (by kernel_rfl))
  f337 := Tryz.func135.trans (congrArg some (by kernel_rfl))
  f338 := Tryz.func136.trans (congrArg some (by kernel_rfl))
  t0 := Tryz.underlying0
  a0 := Tryz.isAgg0
  z0 := Tryz.sizeOf0
  v0 := Tryz.zeroValue0
  t2 := Tryz.underlying2
  a2 := Tryz.isAgg2
  z2 := Tryz.sizeOf2
  v2 := Tryz.zeroValue2
  t3 := Tryz.underlying3
  a3 := Tryz.isAgg3
  z3 := Tryz.sizeOf3
  v3 := Tryz.zeroValue3
  t4 := Tryz.underlying4
  a4 := Tryz.isAgg4
  z4 := Tryz.sizeOf4
  v4 := Tryz.zeroValue4
  t5 := Tryz.underlying5
  a5 := Tryz.isAgg5
  z5 := Tryz.sizeOf5
  v5 := Tryz.zeroValue5
  t9 := Tryz.underlying9
  a9 := Tryz.isAgg9
  z9 := Tryz.sizeOf9
  v9 := Tryz.zeroValue9
  t20 := Tryz.underlying20
  a20 := Tryz.isAgg20
  z20 := Tryz.sizeOf20
  v20 := Tryz.zeroValue20
  t37 := Tryz.underlying76
  a37 := Tryz.isAgg76
  z37 := Tryz.sizeOf76
  v37 := Tryz.zeroValue76
  t46 := Tryz.underlying102
  a46 := Tryz.isAgg102
  z46 := Tryz.sizeOf102
  v46 := Tryz.zeroValue102
  t51 := Tryz.underlying166
  a51 := Tryz.isAgg166
  z51 := Tryz.sizeOf166
  v51 := Tryz.zeroValue166
  t53 := Tryz.underlying157
  a53 := Tryz.isAgg157
  z53 := Tryz.sizeOf157
  v53 := Tryz.zeroValue157
  t171 := Tryz.underlying156
  a171 := Tryz.isAgg156
  z171 := Tryz.sizeOf156
  v171 := Tryz.zeroValue156
  t173 := Tryz.underlying160
  a173 := Tryz.isAgg160
  z173 := Tryz.sizeOf160
  v173 := Tryz.zeroValue160
  t212 := Tryz.underlying165
  a212 := Tryz.isAgg165
  z212 := Tryz.sizeOf165
  v212 := Tryz.zeroValue165
  t213 := Tryz.underlying167
  a213 := Tryz.isAgg167
  z213 := Tryz.sizeOf167
  t232 := Tryz.underlying171
  a232 := Tryz.isAgg171
  z232 := Tryz.sizeOf171
  v232 := Tryz.zeroValue171
  t233 := Tryz.underlying172
  a233 := Tryz.isAgg172
  z233 := Tryz.sizeOf172
  v233 := Tryz.zeroValue172
  g17 := by kernel_rfl
  g18 := by kernel_rfl
  g19 := by kernel_rfl
  i0 := by kernel_rfl
  i2 := by kernel_rfl
  i3 := by kernel_rfl
  i4 := by kernel_rfl
  i5 := by kernel_rfl
  i9 := by kernel_rfl
  i20 := by kernel_rfl
  i37 := by kernel_rfl
  i46 := by kernel_rfl
  i51 := by kernel_rfl
  i53 := by kernel_rfl
  i171 := by kernel_rfl
  i173 := by kernel_rfl
  i212 := by kernel_rfl
  i232 := by kernel_rfl
  i233 := by kernel_rfl
  m17 := by kernel_rfl
  m18 := by kernel_rfl
  m19 := by kernel_rfl }
open Go.RowKit Go.Sort Go.Lib in
theorem Tryz.internal_strconv_FormatInt_10 (n : Int) (h0 : -9223372036854775808 ≤ n) (h1 : n ≤ 9223372036854775807) (w : World) (htab : Lib.TabIs Tryz.prog w "internal/strconv.uint64pow10" .u64 Lib.pow10Tab) :
    Calls Tryz.prog 104 #[.int .i64 n, .int .i64 10] w fun e w' => e = .returned (.string ⟨(Lib.itoa n).toArray⟩) ∧ ∃ k os, w' = grow (w.drewN k) os := Any.internal_strconv_FormatInt_10 Tryz.laysM246 n h0 h1 w htab
end Go.Proofs
namespace Go.Proofs.YtcmfekgdlaffkaaGreatDoor.Px
open Go Go.Proofs Go.RowKit Go.Shelf Vm
set_option linter.unusedVariables false
set_option linter.unusedSimpArgs false
set_option maxRecDepth 100000

theorem below_grow (w : World) (q : Nat) (os : Array Obj) : Below w.heap.size w (Go.Sort.grow (w.drewN q) os) :=
  ⟨rfl, rfl, rfl, by simp [Go.Sort.grow], fun i hi => by
    show ((w.drewN q).heap ++ os)[i]? = _
    rw [Array.getElem?_append_left (by show i < w.heap.size; omega)]
    rfl⟩

theorem tab_is {F : Frz} {w : World} (h : Tb E F w) : Lib.TabIs Tryz.prog w "internal/strconv.uint64pow10" .u64 Lib.pow10Tab := by
  obtain ⟨_, e, x, hw⟩ := h 0 _ (by rfl)
  show w.var? Tryz.prog "internal/strconv.uint64pow10" = _
  unfold World.var?
  rw [show Tryz.prog.globalNamed "internal/strconv.uint64pow10" = some 0 by kernel_rfl]
  simp only [Option.bind_some, hw]

theorem c75 (n : Int) (h0 : -9223372036854775808 ≤ n) (h1 : n ≤ 9223372036854775807) (w : World) (htab : Lib.TabIs Tryz.prog w "internal/strconv.uint64pow10" .u64 Lib.pow10Tab) :
    Calls Tryz.prog 75 #[.int .i64 n, .int .i64 10] w fun e w' => e = .returned (.string ⟨(Lib.itoa n).toArray⟩) ∧ ∃ k os, w' = Go.Sort.grow (w.drewN k) os := by
  go_enter Tryz.func75, Tryz.ntmps75
  go_wp2_with fail
  refine (Tryz.internal_strconv_FormatInt_10 n h0 h1 _ htab).mono ?_
  rintro e w' ⟨rfl, k, os, rfl⟩
  go_wp2
  go_ret
  exact ⟨rfl, k, os, rfl⟩
theorem c48 (n : Int) (h0 : -9223372036854775808 ≤ n) (h1 : n ≤ 9223372036854775807) (w : World) (htab : Lib.TabIs Tryz.prog w "internal/strconv.uint64pow10" .u64 Lib.pow10Tab) :
    Calls Tryz.prog 48 #[.int .i64 n] w fun e w' => e = .returned (.string ⟨(Lib.itoa n).toArray⟩) ∧ ∃ k os, w' = Go.Sort.grow (w.drewN k) os := by
  go_enter Tryz.func48, Tryz.ntmps48
  go_wp2_with fail
  refine (c75 n h0 h1 _ htab).mono ?_
  rintro e w' ⟨rfl, k, os, rfl⟩
  go_wp2
  go_ret
  exact ⟨rfl, k, os, rfl⟩

/-- A number's digits. -/
def dig (n : Int) : ByteArray := ⟨(Lib.decDigits n.toNat).toArray⟩
def hand_dec (n : Int) : Option ByteArray := bif decide (0 ≤ n) && decide (n ≤ 9223372036854775807) then some (dig n) else none
theorem hand_dec_some {n : Int} {y : ByteArray} (h : hand_dec n = some y) : 0 ≤ n ∧ n ≤ 9223372036854775807 ∧ y = dig n := by
  unfold hand_dec at h
  by_cases h0 : 0 ≤ n
  · by_cases h1 : n ≤ 9223372036854775807
    · simp only [h0, h1, decide_true, Bool.and_self, cond_true, Option.some.injEq] at h
      exact ⟨h0, h1, h.symm⟩
    · simp [h0, h1] at h
  · simp [h0] at h

def hand_dec48 (n : Int) : Option ByteArray := hand_dec n
def hand_dec33 (n : Int) : Option ByteArray := hand_dec n

theorem dec_len : ∀ (k u : Nat), u < 10 ^ (k + 1) → (Lib.decDigits u).length ≤ k + 1
  | 0, u, h => by rw [Lib.decDigits_one (by simpa using h)]; simp
  | k + 1, u, h => by
    by_cases h9 : u < 10
    · rw [Lib.decDigits_one h9]; simp
    · rw [Lib.decDigits, dif_neg h9]
      have := dec_len k (u / 10) (by rw [Nat.pow_succ] at h; omega)
      simp; omega
theorem dig_size {n : Int} (h1 : n ≤ 9223372036854775807) : (dig n).size ≤ 19 := by
  have := dec_len 18 n.toNat (by omega)
  simpa [dig, ByteArray.size] using this

theorem one_arg {vs : Array Value} (h : 1 = vs.size) : ∃ v, vs = #[v] := ⟨vs[0]'(by omega), by
    apply Array.ext
    · simp; omega
    · intro i h1 h2
      have h2 : i = 0 := by simp at h2; omega
      subst h2; rfl⟩

theorem good_hand_dec48 (n : Int) (y : ByteArray) (hy : hand_dec48 n = some y) : Vm.Good E Tryz.prog 48 [.int .i64 n] (.str y) := by
  obtain ⟨h0, h1, rfl⟩ := hand_dec_some hy
  refine ⟨⟨Tryz.f48, Tryz.func48, by kernel_rfl, by kernel_rfl⟩, fun F w vs hF hlen hxs => ?_⟩
  obtain ⟨v, rfl⟩ := one_arg hlen
  have hv : VRep E F w noBet (.int .i64 n) v := hxs 0 _ rfl
  cases hv with
  | int k m =>
    refine (c48 n (by omega) h1 w (tab_is hF.tb)).mono ?_
    rintro e w' ⟨rfl, k, os, rfl⟩
    have hb := below_grow w k os
    refine ⟨_, F, rfl, hb, fun _ _ h => h, fun _ _ h => .inl h, fun b o h => Nat.lt_of_lt_of_le (hF.lt b o h) hb.size, ?_⟩
    have e : Lib.itoa n = Lib.decDigits n.toNat := by unfold Lib.itoa; rw [if_neg (by omega)]
    rw [e]
    exact .str _

/-! ### The reference's, which calls itself -/
def hdR (m k : Int) : Option ByteArray := bif decide (0 ≤ k) && decide (k < m) then some (dig k) else none
def S_hdR (m : Int) (xs : List (D RT den)) : Option (Out RT den) := match xs with | [.int .i64 a] => some ⟨ByteArray, hdR m a, fun y => .str y, fun _ => true⟩ | _ => none
def F_dg (m n : Int) : Option ByteArray :=
  (bif (decide (n < 10)) then (some (bytesOf 1 (fun i => ((fun i => ([(IntKind.wrap .u8 (IntKind.wrap .i64 (48 + n)))] : List (Int)).getD i (dflt .u8)) i)))) else
    ((hdR m (IntKind.wrap .i64 (Int.tdiv n 10))).bind fun y => ((bif (decide (ByteArray.size y + ByteArray.size (bytesOf 1 (fun i => ((fun i => ([(IntKind.wrap .u8 (IntKind.wrap .i64 (48 + (Int.tmod n 10))))] : List (Int)).getD i (dflt .u8)) i))) ≤ 9223372036854775807)) then
    some () else none : Option Unit).bind fun _ => (some (y ++ (bytesOf 1 (fun i => ((fun i => ([(IntKind.wrap .u8 (IntKind.wrap .i64 (48 + (Int.tmod n 10))))] : List (Int)).getD i (dflt .u8)) i))))))))
def pcf_dg (m : Int) (f : Nat) (xs : List (D RT den)) : Option (Out RT den) := match f with | 33 => S_hdR m xs | _ => none
def pc_dg (m : Int) : Pc RT den := ⟨pcf_dg m, fun _ => false, fun _ => false, pcd0, pcd0, pcd0, pcx0⟩
def msk_dg (b : Nat) : List Nat := []
def lp_dg : Lp RT den (ByteArray) := ⟨fun b s k => none, inl0⟩
def out_dg (d : D RT den) : Option ByteArray := match d with | .str s => some s | _ => none
theorem out_dg_enc (d : D RT den) (y : ByteArray) (h : out_dg d = some y) : d = .str y := by
  unfold out_dg at h
  split at h
  · cases h; rfl
  · cases h
theorem ev_dg (m n : Int) : evFun E (pc_dg m) msk_dg lp_dg out_dg 33 [(.int .i64 n)] = F_dg m n := by kernel_rfl
noncomputable def body_dg : Code := Tryz.f33.body.getD .skip
theorem lpok_dg (m : Int) : LpOk E (pc_dg m) 0 msk_dg lp_dg (loops 0 body_dg) := lp_nil (loop_nil (by kernel_rfl)) (by kernel_rfl)

theorem bytes_one (v : Int) : bytesOf 1 (fun i => ((fun i => ([v] : List (Int)).getD i (dflt .u8)) i)) = ⟨#[UInt8.ofNat v.toNat]⟩ := rfl
theorem w8 (k : Nat) (h : k < 10) : IntKind.wrap .u8 (IntKind.wrap .i64 (48 + (k : Int))) = 48 + (k : Int) := by
  have h1 : IntKind.wrap .i64 (48 + (k : Int)) = 48 + (k : Int) := by simp [IntKind.wrap, IntKind.bits, IntKind.signed]; omega
  rw [h1]; simp [IntKind.wrap, IntKind.bits, IntKind.signed]; omega
theorem toNat48 (k : Nat) : ((48 : Int) + (k : Int)).toNat = 48 + k := by omega

theorem F_dg_eq {n : Int} (h0 : 0 ≤ n) (h1 : n ≤ 9223372036854775807) : F_dg n n = some (dig n) := by
  obtain ⟨k, rfl⟩ : ∃ k : Nat, n = (k : Int) := ⟨n.toNat, by omega⟩
  unfold F_dg
  by_cases h : k < 10
  · have hd : decide ((k : Int) < 10) = true := decide_eq_true (by omega)
    rw [hd, cond_true, bytes_one, w8 k h, toNat48, dig, Int.toNat_natCast, Lib.decDigits_one h]
  · have hd : decide ((k : Int) < 10) = false := decide_eq_false (by omega)
    have e1 : Int.tdiv (k : Int) 10 = ((k / 10 : Nat) : Int) := rfl
    have e2 : Int.tmod (k : Int) 10 = ((k % 10 : Nat) : Int) := rfl
    have e3 : IntKind.wrap .i64 ((k / 10 : Nat) : Int) = ((k / 10 : Nat) : Int) := by simp [IntKind.wrap, IntKind.bits, IntKind.signed]; omega
    have e4 : hdR (k : Int) ((k / 10 : Nat) : Int) = some (dig ((k / 10 : Nat) : Int)) := by
      unfold hdR
      rw [decide_eq_true (show (0 : Int) ≤ ((k / 10 : Nat) : Int) by omega), decide_eq_true (show ((k / 10 : Nat) : Int) < (k : Int) by omega)]
      rfl
    rw [hd, cond_false, e1, e2, e3, e4, Option.bind_some, bytes_one, w8 _ (by omega), toNat48]
    have hs := dig_size (n := ((k / 10 : Nat) : Int)) (by omega)
    have hz : ByteArray.size (⟨#[UInt8.ofNat (48 + k % 10)]⟩ : ByteArray) = 1 := rfl
    rw [decide_eq_true (by rw [hz]; omega), cond_true, Option.bind_some]
    congr 1
    unfold dig
    rw [Int.toNat_natCast, Int.toNat_natCast, show Lib.decDigits k = Lib.decDigits (k / 10) ++ [UInt8.ofNat (48 + k % 10)] by rw [Lib.decDigits, dif_neg h]]
    apply ByteArray.ext
    simp

theorem dg_good : ∀ (k : Nat) (n : Int), 0 ≤ n → n ≤ 9223372036854775807 → n.toNat < k → Vm.Good E Tryz.prog 33 [.int .i64 n] (.str (dig n))
  | 0, n, _, _, h => absurd h (Nat.not_lt_zero _)
  | k + 1, n, h0, h1, hk => by
    refine fun_good E_ok (pc_good (pc := pc_dg n) ?_ hpx0) (fn := Tryz.f33) (c := body_dg) (out := out_dg) (y := dig n) (by kernel_rfl) (by kernel_rfl) (by kernel_rfl) (lpok_dg n) (fun d hd => out_dg_enc d _ hd) ((ev_dg n n).trans (F_dg_eq h0 h1))
    intro f xs o h y hy
    have h : pcf_dg n f xs = some o := h
    unfold pcf_dg at h
    split at h
    · unfold S_hdR at h
      split at h
      · cases h
        rename_i a
        have hy : hdR n a = some y := hy
        unfold hdR at hy
        by_cases q0 : 0 ≤ a
        · by_cases q1 : a < n
          · simp only [q0, q1, decide_true, Bool.and_self, cond_true, Option.some.injEq] at hy
            subst hy
            exact dg_good k a q0 (by omega) (by omega)
          · simp [q0, q1] at hy
        · simp [q0] at hy
      · cases h
    · cases h

theorem good_hand_dec33 (n : Int) (y : ByteArray) (hy : hand_dec33 n = some y) : Vm.Good E Tryz.prog 33 [.int .i64 n] (.str y) := by
  obtain ⟨h0, h1, rfl⟩ := hand_dec_some hy
  exact dg_good (n.toNat + 1) n h0 h1 (by omega)

end Go.Proofs.YtcmfekgdlaffkaaGreatDoor.Px
