/- The sum over the words of some bytes: its contract, walked by hand (a range over slices.Chunk). Conditions: at most 9000000000000000 bytes. -/
import Derived.RangeFuncBox
import Derived.RangeFuncLeaves
import Derived.RangeFuncFrom
import Derived.RangeFuncNested
import Derived.RangeFuncBound
import Derived.RangeFuncCalls
import Derived.Shelf.Abstract
import Derived.WalkKit
import Derived.OwnWalkIn
import Derived.TacticsInMore
import Derived.LoopNIn
import Derived.LoopIn
import Derived.KernelRfl
import Derived.RegionTactic
import Derived.Deep.RegionHeld
import Derived.Test.YtcmfekgdlaffkaaPmT
namespace Go.Proofs.Ytcmfekgdlaffkaa.Pm
open Go Go.Proofs Go.RowKit Go.Shelf
set_option linter.unusedVariables false
set_option linter.unusedSimpArgs false
attribute [local go_sem] Oper.semAt_some

/-- A chunk's slice. -/
def chunkV (b off len : Nat) (k : Nat) : Value := .slice (some ⟨b, off + 2 * k, none⟩) (min 2 (len - 2 * k)) (min 2 (len - 2 * k))

/-- What a round keeps: the two variables of the closure. -/
def KpC (Bs Bn : Nat) (W W' : World) : Prop := (∀ v, W.cell? ⟨Bs, 0, none⟩ = some v → W'.cell? ⟨Bs, 0, none⟩ = some v) ∧ ∀ v, W.cell? ⟨Bn, 0, none⟩ = some v → W'.cell? ⟨Bn, 0, none⟩ = some v
theorem KpC.trans {Bs Bn : Nat} {A B C : World} (h : KpC Bs Bn A B) (k : KpC Bs Bn B C) : KpC Bs Bn A C := ⟨fun v hv => k.1 v (h.1 v hv), fun v hv => k.2 v (h.2 v hv)⟩
theorem KpC.put {Bs Bn : Nat} (W : World) (l : Nat) (o o' : Obj) (h : W.heap[l]? = some o) (ho : o.isCells = false) : KpC Bs Bn W (W.putObj l o') :=
  ⟨fun v hv => cell_kept hv (grownBy_putObj' W l o') (fun r e => by cases e; exact ⟨o, h, ho⟩), fun v hv => cell_kept hv (grownBy_putObj' W l o') (fun r e => by cases e; exact ⟨o, h, ho⟩)⟩
theorem KpC.set {Bs Bn : Nat} (W : World) (b : Nat) (u : Value) (h1 : b ≠ Bs) (h2 : b ≠ Bn) : KpC Bs Bn W (W.setCell ⟨b, 0, none⟩ u) :=
  ⟨fun v hv => (World.cell?_setCell_far W ⟨b, 0, none⟩ ⟨Bs, 0, none⟩ u h1).trans hv, fun v hv => (World.cell?_setCell_far W ⟨b, 0, none⟩ ⟨Bn, 0, none⟩ u h2).trans hv⟩

set_option maxRecDepth 100000 in
set_option maxHeartbeats 2000000 in
theorem chunk1_in (n : Nat) (hn : 1 ≤ n) (l Bs Bn b off len cap : Nat) (hlen : len ≤ 9000000000000000) (hcap : len ≤ cap) (J Jx : List { k : Nat // 2 * k < len } → World → Prop) (hJd : ∀ pre W, J pre W → J pre W.drew)
    (hY : ∀ pre x W, J pre W → pre.length < len → YieldAt Fence.wide (n - 1) Try.prog l #[chunkV b off len x.1] W fun e W' =>
      (e = .returned (.bool true) ∧ J (pre ++ [x]) W' ∧ KpC Bs Bn W W') ∨ (e = .returned (.bool false) ∧ Jx (pre ++ [x]) W'))
    (W : World) (hBs : W.cell? ⟨Bs, 0, none⟩ = some (.slice (some ⟨b, off, none⟩) len cap)) (hBn : W.cell? ⟨Bn, 0, none⟩ = some (.int .i64 2)) (h0 : J [] W) :
    CallsIn Fence.wide n Try.prog 145 #[.func (.yield l) #[] #[], .pointer (some ⟨Bs, 0, none⟩), .pointer (some ⟨Bn, 0, none⟩)] W fun e W' => (∃ v, e = .returned v) ∧
      ((∃ ys : List { k : Nat // 2 * k < len }, ys.map (·.1) = List.range ((len + 1) / 2) ∧ J ys W') ∨ (∃ pre, Jx pre W')) := by
  refine callsIn_of_wp Try.func145 rfl trivial ?_ rfl
  simp only [Try.ntmps145, List.size_toArray, List.length_cons, List.length_nil, Nat.reduceAdd, Nat.reduceSub, Array.replicate_succ, Array.replicate_zero, List.push_toArray, List.append_toArray, List.nil_append, List.cons_append]
  gi_wp2
  gi_loopw [4] (fun i wr => ∃ (k : Nat) (ys : List { k : Nat // 2 * k < len }), 2 * k ≤ len + 1 ∧ i = .int .i64 ((2 * k : Nat) : Int) ∧ ys.map (·.1) = List.range k ∧ J ys wr ∧ wr.cell? ⟨Bs, 0, none⟩ = some (.slice (some ⟨b, off, none⟩) len cap) ∧ wr.cell? ⟨Bn, 0, none⟩ = some (.int .i64 2))
    (fun i _ => len + 1 - (intOf i).toNat)
  case atStart => exact ⟨0, [], by omega, rfl, rfl, h0, hBs, hBn⟩
  case round =>
    obtain ⟨k, ys, hk, rfl, hys, hJs, cs, cn⟩ := hrel
    by_cases hlt : 2 * k < len
    · obtain ⟨fn, tmps, assign, body, hy, hR⟩ := hY ys ⟨k, hlt⟩ wr.drew (hJd _ _ hJs) (by have := congrArg List.length hys; simp at this; omega)
      simp only [chunkV] at hy
      gi_wp2
      refine wpIn_wide.2 ?_
      go_region
      all_goals gi_wp2
      · have e : ((2 * (k : Int) + ((len - 2 * k : Nat) : Int)).toNat - 2 * k) = min 2 (len - 2 * k) := by omega
        rw [e, hy]
        gi_wp2
        refine hR.mono ?_
        rintro e W3 (⟨rfl, hJ3, hk3⟩ | ⟨rfl, hJx3⟩)
        · have cn3 := hk3.2 _ cn
          have cs3 := hk3.1 _ cs
          gi_wp2
          go_roundw
          case rel => exact ⟨k + 1, ys ++ [⟨k, hlt⟩], by omega, by simp; omega, by rw [List.map_append, hys, List.range_succ]; rfl, hJ3, cs3, cn3⟩
          case measure => simp [intOf]; omega
        · gi_wp2
          refine bodyPost_ret (results_none rfl _ _ _) rfl ?_
          exact ⟨⟨_, rfl⟩, .inr ⟨_, hJx3⟩⟩
      · have e : ((2 * (k : Int) + 2).toNat - 2 * k) = min 2 (len - 2 * k) := by omega
        rw [e, hy]
        gi_wp2
        refine hR.mono ?_
        rintro e W3 (⟨rfl, hJ3, hk3⟩ | ⟨rfl, hJx3⟩)
        · have cn3 := hk3.2 _ cn
          have cs3 := hk3.1 _ cs
          gi_wp2
          go_roundw
          case rel => exact ⟨k + 1, ys ++ [⟨k, hlt⟩], by omega, by simp; omega, by rw [List.map_append, hys, List.range_succ]; rfl, hJ3, cs3, cn3⟩
          case measure => simp [intOf]; omega
        · gi_wp2
          refine bodyPost_ret (results_none rfl _ _ _) rfl ?_
          exact ⟨⟨_, rfl⟩, .inr ⟨_, hJx3⟩⟩
    · obtain rfl : k = (len + 1) / 2 := by omega
      gi_wp2
      go_end0
      exact ⟨⟨_, rfl⟩, .inl ⟨ys, hys, hJs⟩⟩

set_option maxRecDepth 100000 in
set_option maxHeartbeats 1000000 in
/-- .. of no bytes: no round. -/
theorem chunk0_in (n : Nat) (l Bs Bn : Nat) (a : Option Addr) (cap : Nat) (J : List { k : Nat // 2 * k < 0 } → World → Prop) (W : World) (hBs : W.cell? ⟨Bs, 0, none⟩ = some (.slice a 0 cap)) (h0 : J [] W) :
    CallsIn Fence.wide n Try.prog 145 #[.func (.yield l) #[] #[], .pointer (some ⟨Bs, 0, none⟩), .pointer (some ⟨Bn, 0, none⟩)] W fun e W' => (∃ v, e = .returned v) ∧ J [] W' := by
  refine callsIn_of_wp Try.func145 rfl trivial ?_ rfl
  simp only [Try.ntmps145, List.size_toArray, List.length_cons, List.length_nil, Nat.reduceAdd, Nat.reduceSub, Array.replicate_succ, Array.replicate_zero, List.push_toArray, List.append_toArray, List.nil_append, List.cons_append]
  gi_wp2
  gi_loopw [4] (fun i wr => i = .int .i64 0 ∧ J [] wr ∧ wr.cell? ⟨Bs, 0, none⟩ = some (.slice a 0 cap)) (fun _ _ => 0)
  case atStart => exact ⟨rfl, h0, hBs⟩
  case round =>
    obtain ⟨rfl, hJs, hc⟩ := hrel
    gi_wp2
    go_end0
    exact ⟨⟨_, rfl⟩, hJs⟩

set_option maxRecDepth 100000 in
set_option maxHeartbeats 1000000 in
theorem chunk_in (n : Nat) (a : Option Addr) (len cap : Nat) (w : World) :
    CallsIn Fence.wide n Try.prog 144 #[.slice a len cap, .int .i64 2] w fun e w' => e = .returned (.func (.func 145) #[] #[.pointer (some ⟨w.heap.size, 0, none⟩), .pointer (some ⟨w.heap.size + 1, 0, none⟩)]) ∧ w' = (w.alloc (.cells #[.slice a len cap] 22)).alloc (.cells #[.int .i64 2] 3) := by
  refine callsIn_of_wp Try.func144 rfl trivial ?_ rfl
  simp only [Try.ntmps144, List.size_toArray, List.length_cons, List.length_nil, Nat.reduceAdd, Nat.reduceSub, Array.replicate_succ, Array.replicate_zero, List.push_toArray, List.append_toArray, List.nil_append, List.cons_append]
  gi_wp2
  go_ret
  exact ⟨rfl, rfl⟩

/-- The slice lies so: a block below n₀, or it has no bytes. -/
def Lies (n₀ b off : Nat) (a : Option Addr) (len cap : Nat) : Prop := len ≤ cap ∧ (len ≠ 0 → a = some ⟨b, off, none⟩ ∧ b < n₀)

theorem chunk_stops (n : Nat) (hn : 1 ≤ n) (Bs Bn n₀ b off len cap : Nat) (a : Option Addr) (hlen : len ≤ 9000000000000000) (w : World) (hBs : Bs < w.heap.size) (hBn : Bn < w.heap.size)
    (hc : w.cell? ⟨Bs, 0, none⟩ = some (.slice a len cap)) (hc2 : w.cell? ⟨Bn, 0, none⟩ = some (.int .i64 2)) (hL : Lies n₀ b off a len cap) :
    SeqStopsK Fence.wide n Try.prog 145 #[.pointer (some ⟨Bs, 0, none⟩), .pointer (some ⟨Bn, 0, none⟩)] (fun x : { k : Nat // 2 * k < len } => #[chunkV b off len x.1]) (KpC Bs Bn) (fun ys => ys.map (·.1) = List.range ((len + 1) / 2)) (fun _ => True) len w := fun l J Jx W hW hJ _ hY h0 => by
  have hc' := (hW.cell (p := ⟨Bs, 0, none⟩) hBs).trans hc
  have hc2' := (hW.cell (p := ⟨Bn, 0, none⟩) hBn).trans hc2
  by_cases h : len = 0
  · subst h
    exact (chunk0_in n l Bs Bn a cap J W hc' h0).mono fun e W' ⟨he, hj⟩ => ⟨he, .inl ⟨[], rfl, hj⟩⟩
  · obtain ⟨rfl, hb⟩ := hL.2 h
    refine (chunk1_in n hn l Bs Bn b off len cap hlen hL.1 J Jx (fun pre A hA => hJ _ _ _ none hA ⟨rfl, rfl, rfl, Nat.le_refl _, fun _ _ _ => rfl⟩ (fun r e => by cases e)) hY W hc' hc2' h0).mono ?_
    rintro e W' ⟨he, ⟨ys, hy, hj⟩ | ⟨pre, hj⟩⟩
    · exact ⟨he, .inl ⟨_, hy, hj⟩⟩
    · exact ⟨he, .inr ⟨_, trivial, hj⟩⟩

/-- A word's number, and the sum behind it. -/
def wordN (f : Nat → Int) (len k : Nat) : Int := if 2 * k + 1 < len then bits BinOp.or IntKind.i64 (wrap64 (wrap64 (f (2 * k)) * 256)) (wrap64 (f (2 * k + 1))) else wrap64 (wrap64 (f (2 * k)) * 256)
def stepW (f : Nat → Int) (len : Nat) (h : Int) (k : Nat) : Int := if 65535 < wrap64 (h + wordN f len k) then wrap64 (wrap64 (h + wordN f len k) - 65535) else wrap64 (h + wordN f len k)
def hsum (f : Nat → Int) (len : Nat) (l : List Nat) : Int := l.foldl (stepW f len) 0
theorem hsum_snoc (f : Nat → Int) (len : Nat) (l : List Nat) (k : Nat) : hsum f len (l ++ [k]) = stepW f len (hsum f len l) k := by simp [hsum]
/-- A round's end. -/
theorem round_ends {n₀ len : Nat} {f : Nat → Int} {w W W' : World} {pre : List { k : Nat // 2 * k < len }} {k : Nat} {hk : 2 * k < len} {a : Act} (hB : Below n₀ w W) (hf : W.frozen? ⟨n₀, 0, none⟩ = false)
    (hW : W' = W.setCell ⟨n₀, 0, none⟩ (.int .i64 (stepW f len (hsum f len (pre.map (·.1))) k)) ∨ ∃ u, W' = (W.setCell ⟨n₀, 0, none⟩ u).setCell ⟨n₀, 0, none⟩ (.int .i64 (stepW f len (hsum f len (pre.map (·.1))) k))) (hcw : (W.cell? ⟨n₀, 0, none⟩).isSome = true) :
    ownPostK (KpC (n₀ + 1) (n₀ + 1 + 1)) (fun pre W => (W.cell? ⟨n₀, 0, none⟩ = some (.int .i64 (hsum f len (pre.map (·.1)))) ∧ W.frozen? ⟨n₀, 0, none⟩ = false) ∧ Below n₀ w W) (fun _ _ _ => False) (pre ++ [⟨k, hk⟩]) W .normal a W' := by
  have hs : ((pre ++ [(⟨k, hk⟩ : { k : Nat // 2 * k < len })]).map (·.1)) = pre.map (·.1) ++ [k] := by simp
  rcases hW with rfl | ⟨u, rfl⟩
  · exact ⟨KeepsOthers.setCell _ _ _, KpC.set _ _ _ (by omega) (by omega), ⟨by rw [hs, hsum_snoc]; exact World.cell?_setCell_same' _ _ _ hcw, by rw [World.frozen?_setCell]; exact hf⟩, hB.setCell (p := ⟨n₀, 0, none⟩) (Nat.le_refl _) _⟩
  · refine ⟨(KeepsOthers.setCell _ _ _).trans (KeepsOthers.setCell _ _ _), (KpC.set _ _ _ (by omega) (by omega)).trans (KpC.set _ _ _ (by omega) (by omega)), ⟨?_, ?_⟩, (hB.setCell (p := ⟨n₀, 0, none⟩) (Nat.le_refl _) _).setCell (p := ⟨n₀, 0, none⟩) (Nat.le_refl _) _⟩
    · rw [hs, hsum_snoc]; exact World.cell?_setCell_same' _ _ _ (by rw [World.cell?_setCell_same' _ _ _ hcw]; rfl)
    · rw [World.frozen?_setCell, World.frozen?_setCell]; exact hf

set_option maxRecDepth 100000 in
set_option maxHeartbeats 2000000 in
theorem sum_in (n : Nat) (hn : 3 ≤ n) (a : Option Addr) (b off len cap : Nat) (f : Nat → Int) (hlen : len ≤ 9000000000000000) (w : World) (hL : Lies w.heap.size b off a len cap) (hc : ∀ j, j < len → w.cell? ⟨b, off + j, none⟩ = some (.int .u8 (f j))) :
    CallsIn Fence.wide n Try.prog 134 #[.slice a len cap] w fun e W' => e = .returned (.int .i64 (wrap64 (65535 - hsum f len (List.range ((len + 1) / 2))))) ∧ Below w.heap.size w W' := by
  have h1 : 1 ≤ n := by omega
  have h144 : Fence.wide.fn 144 := trivial
  refine callsIn_of_wp_marks Try.func134 rfl trivial ?_ rfl
  simp only [Try.ntmps134, List.size_toArray, List.length_cons, List.length_nil, Nat.reduceAdd, Nat.reduceSub, Array.replicate_succ, Array.replicate_zero, List.push_toArray, List.append_toArray, List.nil_append, List.cons_append]
  gi_wp2_with (gi_at_call 144; refine (chunk_in (n - 1) _ _ _ _).mono ?_; rintro e w' ⟨rfl, rfl⟩)
  have bS := Boxed.new w 2 (.int .i64 0)
  have bN := Boxed.new (w.alloc (.cells #[.int .i64 0] 2)) 22 (.slice a len cap)
  rw [World.size_alloc] at bN
  have bM := Boxed.new ((w.alloc (.cells #[.int .i64 0] 2)).alloc (.cells #[.slice a len cap] 22)) 3 (.int .i64 2)
  simp only [World.size_alloc] at bM
  have hB0 : Below w.heap.size w (((w.alloc (.cells #[.int .i64 0] 2)).alloc (.cells #[.slice a len cap] 22)).alloc (.cells #[.int .i64 2] 3)) := (((Below.refl _ w).alloc (Nat.le_refl _) _).alloc (by simp) _).alloc (by simp; omega) _
  refine wpIn_rangeFunc_ownF rfl h1 (gf := 145) (lb := #[.pointer (some ⟨w.heap.size + 1, 0, none⟩), .pointer (some ⟨w.heap.size + 1 + 1, 0, none⟩)]) rfl trivial (enters_of Try.func145 (by kernel_rfl) rfl)
    (chunk_stops (n - 1) (by omega) (w.heap.size + 1) (w.heap.size + 1 + 1) w.heap.size b off len cap a hlen _ (by simp) (by simp) (bN.alloc _).cell bM.cell hL)
    KpC.trans (fun W l o o' _ h ho _ => KpC.put W l o o' h ho) (Below.refl _ _) (fun _ => rfl)
    (fun pre W => (W.cell? ⟨w.heap.size, 0, none⟩ = some (.int .i64 (hsum f len (pre.map (·.1)))) ∧ W.frozen? ⟨w.heap.size, 0, none⟩ = false) ∧ Below w.heap.size w W)
    (fun _ _ _ => False)
    (OwnFrom.and (Own.from (fun s A B row hs hg hr => ⟨cell_kept hs.1 hg hr, (frozen_kept hs.1 hg hr).trans hs.2⟩) _) (ownFrom_below (Nat.le_refl _) (by simp; omega)))
    (fun _ _ _ _ _ hs _ _ => hs)
    ⟨⟨((bS.alloc _).alloc _).cell, ((bS.alloc _).alloc _).frozen⟩, hB0⟩
    (fun x => { tmps := #[.slice a len cap, undef, .int .i64 0, .pointer (some ⟨w.heap.size, 0, none⟩), chunkV b off len x.1, undef, .slice a len cap, .func (.func 145) #[] #[.pointer (some ⟨w.heap.size + 1, 0, none⟩), .pointer (some ⟨w.heap.size + 1 + 1, 0, none⟩)], chunkV b off len x.1, undef, undef, undef, undef, undef, undef, undef, undef, undef, undef, undef, undef, undef, undef, undef, undef, undef, undef, undef, undef, undef, undef, undef], defers := [] }) ?assign ?body ?done ?stop
  case assign =>
    intro l x W K hK
    gi_wp2
    exact hK
  case body =>
    rintro l pre ⟨k, hk⟩ W ⟨⟨hcw, hf⟩, hB⟩ _
    simp only [chunkV]
    have hb : len ≠ 0 := by omega
    obtain ⟨ha, hlt⟩ := hL.2 hb
    have c0 : W.cell? ⟨b, off + 2 * k, none⟩ = some (.int .u8 (f (2 * k))) := (hB.cell (p := ⟨b, off + 2 * k, none⟩) hlt).trans (hc _ hk)
    by_cases h2 : 2 * k + 1 < len
    · have c1 : W.cell? ⟨b, off + 2 * k + 1, none⟩ = some (.int .u8 (f (2 * k + 1))) := (hB.cell (p := ⟨b, off + 2 * k + 1, none⟩) hlt).trans (by rw [Nat.add_assoc]; exact hc _ h2)
      have e : min 2 (len - 2 * k) = 2 := by omega
      rw [e]
      gi_wp2
      · rename_i hbig
        refine round_ends hB hf (.inr ⟨.int .i64 (wrap64 (hsum f len (pre.map (·.1)) + wordN f len k)), ?_⟩) (by rw [hcw]; rfl)
        simp only [stepW, wordN, h2, if_true, if_false]
        rw [if_pos (show 65535 < wrap64 (hsum f len (pre.map (·.1)) + _) from hbig)]
        rfl
      · rename_i hbig
        refine round_ends hB hf (.inl ?_) (by rw [hcw]; rfl)
        simp only [stepW, wordN, h2, if_true, if_false]
        rw [if_neg (show ¬ 65535 < wrap64 (hsum f len (pre.map (·.1)) + _) from by first | exact hbig | exact Int.not_lt.mpr hbig)]
        rfl
    · have e : min 2 (len - 2 * k) = 1 := by omega
      rw [e]
      gi_wp2
      · rename_i hbig
        refine round_ends hB hf (.inr ⟨.int .i64 (wrap64 (hsum f len (pre.map (·.1)) + wordN f len k)), ?_⟩) (by rw [hcw]; rfl)
        simp only [stepW, wordN, h2, if_true, if_false]
        rw [if_pos (show 65535 < wrap64 (hsum f len (pre.map (·.1)) + _) from hbig)]
        rfl
      · rename_i hbig
        refine round_ends hB hf (.inl ?_) (by rw [hcw]; rfl)
        simp only [stepW, wordN, h2, if_true, if_false]
        rw [if_neg (show ¬ 65535 < wrap64 (hsum f len (pre.map (·.1)) + _) from by first | exact hbig | exact Int.not_lt.mpr hbig)]
        rfl
  case done =>
    rintro D ys W hD hys ⟨⟨hc2, _⟩, hB⟩ hK
    rw [hys] at hc2
    gi_wp2
    refine ⟨by simp, .inl ⟨_, _, rfl, run_takeDeferred hK, ?_⟩⟩
    exact ⟨_, results_tmp rfl _ _ _, rfl, hB.trans (belowK_b (w := w) (Nat.le_refl _) W D _ _ (by simp at hD; omega) hK rfl rfl)⟩
  case stop =>
    rintro D c pre W _ _ h _
    exact h.elim

/-! ### As the value machine wants it -/
open Vm in
def hand_SumWords (n : Nat) (f : Nat → Int) : Option Int := bif decide (n ≤ 9000000000000000) then some (wrap64 (65535 - hsum f n (List.range ((n + 1) / 2)))) else none
open Vm in
theorem good_hand_SumWords (x : Sl Int) (y : Int) (hy : hand_SumWords x.n x.f = some y) : Vm.Good E Try.prog 134 [.rs x.z .u8 x.n x.f] (.int .i64 y) := by
  have hn : x.n ≤ 9000000000000000 := by
    unfold hand_SumWords at hy
    cases hq : decide (x.n ≤ 9000000000000000) with
    | false => rw [hq] at hy; cases hy
    | true => exact of_decide_eq_true hq
  have hy' : wrap64 (65535 - hsum x.f x.n (List.range ((x.n + 1) / 2))) = y := by
    unfold hand_SumWords at hy
    rw [decide_eq_true hn] at hy
    exact Option.some.inj hy
  refine ⟨⟨Try.f134, Try.func134, by kernel_rfl, by kernel_rfl⟩, fun F w vs hF hlen hxs => ?_⟩
  have hv := hxs 0 _ rfl
  obtain ⟨v, rfl⟩ : ∃ v, vs = #[v] := ⟨vs[0]'(by simp at hlen; omega), by
    apply Array.ext
    · simp at hlen ⊢; omega
    · intro i h1 h2
      have h2 : i = 0 := by simp at h2; omega
      subst h2; rfl⟩
  have hv : VRep E F w noBet (.rs x.z .u8 x.n x.f) v := hv
  cases hv with
  | rs z τ n f a cap b o u h1 h2 h3 h4 h5 h6 h7 h8 =>
    have hsz : E.size .u8 = 1 := by kernel_rfl
    refine (callsIn_wide.1 (sum_in 3 (by omega) a b o x.n cap x.f hn w ⟨h5, fun h => ⟨h1 h, hF b _ (h8 0 0 (by omega) (by rw [hsz]; omega)).1⟩⟩ (fun j hj => ?_))).mono ?_
    · have h := (h8 j 0 hj (by rw [hsz]; omega)).2
      have hr := h7 j 0 (.int .u8 (x.f j)) hj (by rfl)
      have key : ∀ q, VRep E F w noBet (.int .u8 (x.f j)) q → q = .int .u8 (x.f j) := fun q hq => by cases hq; rfl
      have hu : u j 0 = .int .u8 (x.f j) := key _ hr
      rw [hsz, Nat.mul_one, Nat.add_zero, hu] at h
      exact h
    · rintro e w' ⟨rfl, hb⟩
      exact ⟨_, F, rfl, hb, fun _ _ h => h, fun _ _ h => .inl h, fun b o h => Nat.lt_of_lt_of_le (hF b o h) hb.size, by rw [hy']; exact .int .i64 y⟩

end Go.Proofs.Ytcmfekgdlaffkaa.Pm
