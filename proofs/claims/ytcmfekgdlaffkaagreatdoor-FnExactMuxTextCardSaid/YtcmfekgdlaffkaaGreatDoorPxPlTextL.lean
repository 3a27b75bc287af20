/- The law MuxText, whole. Conditions: none. -/
import Derived.Test.YtcmfekgdlaffkaaGreatDoorPxPlText
namespace Go.Proofs.YtcmfekgdlaffkaaGreatDoor.Px
open Go Go.RowKit Go.Proofs Vm
set_option linter.unusedVariables false
set_option linter.unusedSimpArgs false
set_option maxRecDepth 100000

/-! ### What a good mux holds -/
structure HeldOk (h : S_impl_Held) : Prop where
  from_ : rng h.Flow.From 0 4294967295 = true
  port : fitN h.Flow.FromP
  name : fitN h.Name
  seen : fitN h.Seen
structure MuxOk (m : S_impl_Mux) : Prop where
  addr : rng m.Address 0 4294967295 = true
  now : fitN m.Now
  ver : fitN m.Watch.Config.Version
  len : m.Cache.n ≤ 8
  held : ∀ i, i < m.Cache.n → HeldOk (m.Cache.f i)
theorem rng_fit {a b : Int} (h : rng a 0 b = true) (hb : b ≤ 9223372036854775807) : fitN a := by
  simp only [rng, Bool.and_eq_true, decide_eq_true_eq] at h
  exact ⟨h.1, by omega⟩
theorem serv_name {c : S_impl_Config} (hc : ConfOk c) {f : S_impl_Flow} {n : Int} (h : servs c f n = true) : fitN n := by
  unfold servs at h
  cases hv : vipFor c f with
  | none => rw [hv] at h; cases h
  | some v =>
    rw [hv] at h
    simp only [Option.elim_some, Bool.and_eq_true] at h
    obtain ⟨j, hj⟩ := Option.isSome_iff_exists.1 h.1
    obtain ⟨j1, j2⟩ := hasN_is hj
    obtain ⟨b, hb⟩ := hc.names v (vipFor_lt hv) j j1
    rw [j2] at hb
    obtain ⟨b1, b2⟩ := hasB_is hb
    have h1 := hc.back b b1
    unfold backOk at h1
    simp only [Bool.and_eq_true, rng, decide_eq_true_eq] at h1
    exact ⟨by omega, by omega⟩
theorem conf_ver {c : S_impl_Config} (h : conff c = 0) : fitN c.Version := by
  unfold conff at h
  cases h1 : rng c.Version 0 1000000 with
  | true => exact rng_fit h1 (by omega)
  | false => rw [h1] at h; cases h
theorem held_ok {m : S_impl_Mux} (hc : ConfOk m.Watch.Config) (hw : fitN m.Now) {i : Nat} (h : heldAt m i = none) : HeldOk (m.Cache.f i) := by
  unfold heldAt at h
  cases h1 : flowOk (m.Cache.f i).Flow with
  | false => rw [h1] at h; cases h
  | true =>
    cases h2 : rng (m.Cache.f i).Seen 0 m.Now with
    | false => rw [h1, h2] at h; cases h
    | true =>
      cases h3 : servs m.Watch.Config (m.Cache.f i).Flow (m.Cache.f i).Name with
      | false => rw [h1, h2, h3] at h; cases h
      | true =>
        unfold flowOk at h1
        simp only [Bool.and_eq_true] at h1
        exact ⟨h1.1, rng_fit h1.2.2.2.1 (by omega), serv_name hc h3, rng_fit h2 hw.2⟩
theorem mux_ok {m : S_impl_Mux} (h : (muxf m != 0) = false) : MuxOk m := by
  have h : muxf m = 0 := by simpa using h
  unfold muxf at h
  cases h1 : rng m.Address 0 4294967295 with
  | false => rw [h1] at h; cases h
  | true =>
    cases h2 : rng m.Now 0 1000000000 with
    | false => rw [h1, h2] at h; cases h
    | true =>
      rw [h1, h2] at h
      simp only [Bool.not_true, Bool.or_self, cond_false] at h
      cases h3 : (watchf m.Watch != 0) with
      | true =>
        rw [h3] at h
        simp only [cond_true] at h
        rw [h] at h3; cases h3
      | false =>
        rw [h3] at h
        have hcf := watch_conf h3
        have hc := conf_ok hcf
        simp only [cond_false] at h
        cases h4 : sameT m.Tables (tabsV m.Watch.Config) with
        | false => rw [h4] at h; cases h
        | true =>
          rw [h4] at h
          simp only [Bool.not_true, cond_false] at h
          unfold heldf at h
          by_cases h8 : 8 < m.Cache.n
          · rw [decide_eq_true h8] at h; cases h
          · rw [decide_eq_false h8] at h
            simp only [cond_false] at h
            have hw := rng_fit h2 (by omega)
            refine ⟨h1, hw, conf_ver hcf, by omega, fun i hi => held_ok hc hw ?_⟩
            cases h5 : scan (heldAt m) m.Cache.n 0 with
            | none => exact scan_none.1 h5 i (Nat.zero_le _) (by omega)
            | some v =>
              rw [h5] at h
              obtain ⟨j, _, _, hj⟩ := scan_some h5
              have h : v = 0 := h
              subst h
              unfold heldAt at hj
              cases h6 : (!flowOk (m.Cache.f j).Flow || !rng (m.Cache.f j).Seen 0 m.Now) with
              | true => rw [h6] at hj; cases hj
              | false =>
                rw [h6] at hj
                cases h7 : servs m.Watch.Config (m.Cache.f j).Flow (m.Cache.f j).Name with
                | false => rw [h7] at hj; cases hj
                | true =>
                  rw [h7] at hj
                  cases h9 : decide (IntKind.wrap .i64 (m.Now - (m.Cache.f j).Seen) > 20) with
                  | true => rw [h9] at hj; cases hj
                  | false =>
                    rw [h9] at hj
                    cases h10 : (findH ⟨m.Cache.z, j, fun k => m.Cache.f k⟩ (m.Cache.f j).Flow).isSome with
                    | true => rw [h10] at hj; cases hj
                    | false => rw [h10] at hj; cases hj

/-! ### The lines -/
def b_mux : ByteArray := ⟨#[109, 117, 120, 32]⟩
def b_held : ByteArray := ⟨#[104, 101, 108, 100, 32]⟩
def b_ver : ByteArray := ⟨#[118, 101, 114, 115, 105, 111, 110]⟩
def b_empty : ByteArray := ⟨#[101, 109, 112, 116, 121, 10]⟩
def h3 (h : S_impl_Held) (i : Nat) : Int := [h.Flow.FromP, h.Name, h.Seen].getD i (dflt .i64)
theorem h3_fit {h : S_impl_Held} (k : HeldOk h) : ∀ i, i < 3 → fitN (h3 h i)
  | 0, _ => k.port
  | 1, _ => k.name
  | 2, _ => k.seen
  | i + 3, h => by omega
def one1 (n : Int) (i : Nat) : Int := ([n] : List Int).getD i (dflt .i64)
theorem one1_fit {n : Int} (h : fitN n) : ∀ i, i < 1 → fitN (one1 n i)
  | 0, _ => h
  | i + 1, h => by omega
def heldL (h : S_impl_Held) : ByteArray := lineV (b_held ++ textV h.Flow.From) (h3 h) 3 ++ ⟨#[10]⟩
def headL (m : S_impl_Mux) : ByteArray := ((b_mux ++ textV m.Address) ++ (lineV ⟨#[]⟩ (one1 m.Now) 1 ++ ⟨#[10]⟩)) ++ (bif m.Watch.Ready then lineV b_ver (one1 m.Watch.Config.Version) 1 ++ ⟨#[10]⟩ else b_empty)
def outL (m : S_impl_Mux) : Nat → ByteArray
  | 0 => headL m
  | i + 1 => outL m i ++ heldL (m.Cache.f i)
theorem heldL_size {h : S_impl_Held} (k : HeldOk h) : (heldL h).size ≤ 200 := by
  have h1 := textV_size k.from_
  have h2 := lineV_size (word := b_held ++ textV h.Flow.From) 3 (h3_fit k)
  have h4 : b_held.size = 5 := rfl
  rw [ByteArray.size_append, h4] at h2
  unfold heldL
  rw [ByteArray.size_append, sz1]
  omega
theorem headL_size {m : S_impl_Mux} (k : MuxOk m) : (headL m).size ≤ 200 := by
  have h1 := textV_size k.addr
  have h2 := lineV_size (word := ⟨#[]⟩) 1 (one1_fit k.now)
  have h3 := lineV_size (word := b_ver) 1 (one1_fit k.ver)
  have h4 : b_mux.size = 4 := rfl
  have h5 : b_ver.size = 7 := rfl
  have h6 : b_empty.size = 6 := rfl
  have h7 : (⟨#[]⟩ : ByteArray).size = 0 := rfl
  unfold headL
  rw [ByteArray.size_append, ByteArray.size_append, ByteArray.size_append, ByteArray.size_append, sz1, h4]
  cases m.Watch.Ready with
  | true => rw [cond_true, ByteArray.size_append, sz1]; omega
  | false => rw [cond_false, h6]; omega
theorem outL_size {m : S_impl_Mux} (k : MuxOk m) : ∀ i, i ≤ m.Cache.n → (outL m i).size ≤ 200 + 200 * i
  | 0, _ => headL_size k
  | i + 1, hi => by
    have h1 := outL_size k i (by omega)
    have h2 := heldL_size (k.held i (by omega))
    unfold outL
    rw [ByteArray.size_append]; omega
def textT (m : S_impl_Mux) : S_impl_TextResult := bif muxf m != 0 then ⟨muxf m, ⟨#[]⟩⟩ else ⟨0, outL m m.Cache.n⟩

/-! ### The reference's text -/
theorem s_heldL {fu : Nat} (hf : 2000000 ≤ fu) {m : S_impl_Mux} (k : MuxOk m) {p1 p3 p4 p6 : Int} {p2 : ByteArray} {p5 : Bool} {p7 : Sl S_impl_Backend} {p8 : Sl S_impl_Vip} {p9 : Sl (Sl Int)} {ρ : Type} (k0 : ByteArray → Option ρ) :
    L (fun (w0 : ByteArray × Int) go0 => F_spec_MuxText_B0 fu p1 p2 p3 p4 p5 p6 p7 p8 p9 m.Cache k0 w0.1 w0.2 (fun q0 q1 => go0 (q0, q1))) fu ((headL m, 0) : ByteArray × Int) = k0 (outL m m.Cache.n) := by
  have hn := k.len
  refine stepL m.Cache.n (fun i => (outL m i, (i : Int))) (by omega) rfl (fun i go hi => ?_) (fun go => ?_)
  · unfold F_spec_MuxText_B0
    have kh := k.held i hi
    have h1 := textV_size kh.from_
    have h2 := outL_size k i (by omega)
    have h3 := heldL_size kh
    have h4 : b_held.size = 5 := rfl
    simp only [Int.toNat_natCast, Int.natCast_nonneg, Int.ofNat_lt, hi, decide_true, Bool.and_self, cond_true, Option.bind_some, s_Text hf kh.from_, wsucc (show i < 4611686018427387904 by omega)]
    rw [cat (by show b_held.size + _ ≤ _; omega)]
    have hl := s_Line hf (word := b_held ++ textV (m.Cache.f i).Flow.From) (by rw [ByteArray.size_append]; omega) (some false) 3 (by omega) _ (h3_fit kh)
    have hl' : F_spec_l5Line fu ((⟨#[104, 101, 108, 100, 32]⟩ : ByteArray) ++ textV (m.Cache.f i).Flow.From) (⟨(some false), 3, (fun j => ([(m.Cache.f i).Flow.FromP, (m.Cache.f i).Name, (m.Cache.f i).Seen] : List (Int)).getD j (dflt .i64))⟩ : (Sl Int)) = some (heldL (m.Cache.f i)) := hl
    rw [hl', Option.bind_some, cat (by omega)]
    rfl
  · unfold F_spec_MuxText_B0
    simp only [Int.lt_irrefl, decide_false, cond_false]
theorem s_MuxText {fu : Nat} (hf : 2000000 ≤ fu) {m : S_impl_Mux} (hl : MuxLen m) : F_spec_MuxText fu m = some (textT m) := by
  unfold F_spec_MuxText textT
  rw [s_MuxFault0 hf hl, Option.bind_some]
  cases h : (muxf m != 0) with
  | true => rfl
  | false =>
    have k := mux_ok h
    have h1 := textV_size k.addr
    have h2 := lineV_size (word := ⟨#[]⟩) 1 (one1_fit k.now)
    have h3 := lineV_size (word := b_ver) 1 (one1_fit k.ver)
    have h4 : b_mux.size = 4 := rfl
    have h5 : b_ver.size = 7 := rfl
    have h6 : b_empty.size = 6 := rfl
    have h7 : (⟨#[]⟩ : ByteArray).size = 0 := rfl
    have e1 : F_spec_l5Line fu (⟨#[]⟩ : ByteArray) (⟨(some false), 1, (fun i => ([m.Now] : List (Int)).getD i (dflt .i64))⟩ : (Sl Int)) = some (lineV ⟨#[]⟩ (one1 m.Now) 1 ++ ⟨#[10]⟩) := s_Line hf (by omega) (some false) 1 (by omega) _ (one1_fit k.now)
    have e2 : F_spec_l5Line fu (⟨#[118, 101, 114, 115, 105, 111, 110]⟩ : ByteArray) (⟨(some false), 1, (fun i => ([m.Watch.Config.Version] : List (Int)).getD i (dflt .i64))⟩ : (Sl Int)) = some (lineV b_ver (one1 m.Watch.Config.Version) 1 ++ ⟨#[10]⟩) := s_Line hf (word := b_ver) (by omega) (some false) 1 (by omega) _ (one1_fit k.ver)
    have z0 : ByteArray.size (⟨#[109, 117, 120, 32]⟩ : ByteArray) = 4 := rfl
    simp only [cond_false, s_Text hf k.addr, Option.bind_some]
    rw [cat (by rw [z0]; omega), e1, Option.bind_some, cat (by rw [ByteArray.size_append, ByteArray.size_append, sz1, z0]; omega), e2]
    cases hr : m.Watch.Ready with
    | true =>
      rw [cond_true, Option.bind_some, cat (by rw [ByteArray.size_append, ByteArray.size_append, ByteArray.size_append, ByteArray.size_append, sz1, z0]; omega)]
      have e : ((⟨#[109, 117, 120, 32]⟩ ++ textV m.Address) ++ (lineV ⟨#[]⟩ (one1 m.Now) 1 ++ ⟨#[10]⟩)) ++ (lineV b_ver (one1 m.Watch.Config.Version) 1 ++ ⟨#[10]⟩) = headL m := by unfold headL; rw [hr]; rfl
      rw [e]
      exact s_heldL hf k _
    | false =>
      rw [cond_false, cat (by rw [ByteArray.size_append, ByteArray.size_append, ByteArray.size_append, sz1, z0]; show _ + b_empty.size ≤ _; omega)]
      have e : ((⟨#[109, 117, 120, 32]⟩ ++ textV m.Address) ++ (lineV ⟨#[]⟩ (one1 m.Now) 1 ++ ⟨#[10]⟩)) ++ ⟨#[101, 109, 112, 116, 121, 10]⟩ = headL m := by unfold headL; rw [hr]; rfl
      rw [e]
      exact s_heldL hf k _

/-! ### The program's text -/
theorem held_eq (h : S_impl_Held) : ((((b_held ++ textV h.Flow.From) ++ (⟨#[32]⟩ : ByteArray)) ++ decV ⟨#[32]⟩ (h3 h) 3) ++ (⟨#[10]⟩ : ByteArray)) = heldL h := by
  have e1 : decV ⟨#[32]⟩ (h3 h) 3 = (((((⟨#[]⟩ ++ dig (h3 h 0)) ++ ⟨#[32]⟩) ++ dig (h3 h 1)) ++ ⟨#[32]⟩) ++ dig (h3 h 2) : ByteArray) := rfl
  have e2 : lineV (b_held ++ textV h.Flow.From) (h3 h) 3 = (((((((b_held ++ textV h.Flow.From) ++ ⟨#[32]⟩) ++ dig (h3 h 0)) ++ ⟨#[32]⟩) ++ dig (h3 h 1)) ++ ⟨#[32]⟩) ++ dig (h3 h 2) : ByteArray) := rfl
  unfold heldL
  rw [e1, e2]
  simp only [ByteArray.append_assoc, emp_app]
theorem i_heldL {fu : Nat} (hf : 2000000 ≤ fu) {m : S_impl_Mux} (k : MuxOk m) {p1 p2 p4 : Int} {p3 : Bool} {p5 : Sl S_impl_Backend} {p6 : Sl S_impl_Vip} {p7 : Sl (Sl Int)} {p8 : Sl S_impl_Held} {ρ : Type} (k0 : ByteArray → Option ρ) :
    L (fun (w0 : ByteArray × Int) go0 => F_impl_muxText_B0 fu m.Cache ((m.Cache.n : Nat) : Int) p1 p2 p3 p4 p5 p6 p7 p8 k0 w0.1 w0.2 (fun q0 q1 => go0 (q0, q1))) fu ((headL m, 0) : ByteArray × Int) = k0 (outL m m.Cache.n) := by
  have hn := k.len
  refine stepL m.Cache.n (fun i => (outL m i, (i : Int))) (by omega) rfl (fun i go hi => ?_) (fun go => ?_)
  · unfold F_impl_muxText_B0
    have kh := k.held i hi
    have h1 := textV_size kh.from_
    have h2 := outL_size k i (by omega)
    have h9 := heldL_size kh
    have h4 : ByteArray.size (⟨#[104, 101, 108, 100, 32]⟩ : ByteArray) = 5 := rfl
    have h5 := decV_size (sep := ⟨#[32]⟩) (Nat.le_refl 1) 3 (h3_fit kh)
    have hd : F_impl_decimals fu (⟨#[32]⟩ : ByteArray) (⟨(some false), 3, (fun j => ([(m.Cache.f i).Flow.FromP, (m.Cache.f i).Name, (m.Cache.f i).Seen] : List (Int)).getD j (dflt .i64))⟩ : (Sl Int)) = some (decV ⟨#[32]⟩ (h3 (m.Cache.f i)) 3) := i_decimals hf (sep := ⟨#[32]⟩) (Nat.le_refl 1) (some false) 3 (by omega) _ (h3_fit kh)
    simp only [Int.toNat_natCast, Int.natCast_nonneg, Int.ofNat_lt, hi, decide_true, Bool.and_self, cond_true, Option.bind_some, i_address hf kh.from_, hd, wsucc (show i < 4611686018427387904 by omega)]
    have he := held_eq (m.Cache.f i)
    have he' : (((((⟨#[104, 101, 108, 100, 32]⟩ : ByteArray) ++ textV (m.Cache.f i).Flow.From) ++ (⟨#[32]⟩ : ByteArray)) ++ decV ⟨#[32]⟩ (h3 (m.Cache.f i)) 3) ++ (⟨#[10]⟩ : ByteArray)) = heldL (m.Cache.f i) := he
    rw [he']
    rw [cat (by rw [h4]; omega), cat (by rw [ByteArray.size_append, h4, sz1]; omega), cat (by rw [ByteArray.size_append, ByteArray.size_append, h4, sz1]; omega), cat (by rw [ByteArray.size_append, ByteArray.size_append, ByteArray.size_append, h4, sz1, sz1]; omega), cat (by omega)]
    rfl
  · unfold F_impl_muxText_B0
    simp only [Int.lt_irrefl, decide_false, cond_false]
theorem i_muxText {fu : Nat} (hf : 2000000 ≤ fu) {m : S_impl_Mux} (k : MuxOk m) : F_impl_muxText fu m = some (outL m m.Cache.n) := by
  have h1 := textV_size k.addr
  have h2 := dig_le k.now
  have h3 := dig_le k.ver
  have h4 : ByteArray.size (⟨#[109, 117, 120, 32]⟩ : ByteArray) = 4 := rfl
  have h5 : ByteArray.size (⟨#[118, 101, 114, 115, 105, 111, 110, 32]⟩ : ByteArray) = 8 := rfl
  have h6 : ByteArray.size (⟨#[101, 109, 112, 116, 121, 10]⟩ : ByteArray) = 6 := rfl
  have l1 : lineV ⟨#[]⟩ (one1 m.Now) 1 = ((⟨#[]⟩ ++ ⟨#[32]⟩) ++ dig m.Now : ByteArray) := rfl
  have l2 : lineV b_ver (one1 m.Watch.Config.Version) 1 = ((b_ver ++ ⟨#[32]⟩) ++ dig m.Watch.Config.Version : ByteArray) := rfl
  have l3 : (⟨#[118, 101, 114, 115, 105, 111, 110, 32]⟩ : ByteArray) = b_ver ++ ⟨#[32]⟩ := by rfl
  unfold F_impl_muxText
  simp only [i_address hf k.addr, i_dec fu k.now, i_dec fu k.ver, Option.bind_some]
  rw [cat (by rw [h4]; omega), cat (by rw [ByteArray.size_append, h4, sz1]; omega), cat (by rw [ByteArray.size_append, ByteArray.size_append, h4, sz1]; omega), cat (by rw [ByteArray.size_append, ByteArray.size_append, ByteArray.size_append, h4, sz1, sz1]; omega)]
  cases hr : m.Watch.Ready with
  | true =>
    rw [cond_true, cat (by rw [h5]; omega), cat (by rw [ByteArray.size_append, h5, sz1]; omega), cat (by simp only [ByteArray.size_append]; rw [h4, sz1, h5, sz1]; omega)]
    have e : (((((⟨#[109, 117, 120, 32]⟩ ++ textV m.Address) ++ ⟨#[32]⟩) ++ dig m.Now) ++ ⟨#[10]⟩) ++ ((⟨#[118, 101, 114, 115, 105, 111, 110, 32]⟩ ++ dig m.Watch.Config.Version) ++ ⟨#[10]⟩) : ByteArray) = headL m := by
      unfold headL
      rw [hr, l1, l2, cond_true, l3]
      simp only [ByteArray.append_assoc, emp_app]
      rfl
    rw [e]
    exact i_heldL hf k _
  | false =>
    rw [cond_false, cat (by simp only [ByteArray.size_append]; rw [h4, sz1, sz1, h6]; omega)]
    have e : (((((⟨#[109, 117, 120, 32]⟩ ++ textV m.Address) ++ ⟨#[32]⟩) ++ dig m.Now) ++ ⟨#[10]⟩) ++ ⟨#[101, 109, 112, 116, 121, 10]⟩ : ByteArray) = headL m := by
      unfold headL
      rw [hr, l1, cond_false]
      simp only [ByteArray.append_assoc, emp_app]
      rfl
    rw [e]
    exact i_heldL hf k _
theorem i_MuxText {fu : Nat} (hf : 2000000 ≤ fu) {m : S_impl_Mux} (hl : MuxLen m) : F_impl_MuxText fu m = some (textT m) := by
  unfold F_impl_MuxText textT
  rw [i_MuxFault hf hl, Option.bind_some]
  cases h : (muxf m != 0) with
  | true => rfl
  | false => rw [cond_false, i_muxText hf (mux_ok h), Option.bind_some]; rfl

/-! ### The law -/
theorem e_TextResult (fu : Nat) (x : S_impl_TextResult) : F_laws_eqTextResult fu x x = some true := by unfold F_laws_eqTextResult; simp
theorem plain_FnExactMuxText (x : S_laws_Mux) (w : W_laws_Mux x) : F_laws_FnExactMuxText plainFuel x = some true := by
  unfold F_laws_FnExactMuxText
  obtain ⟨y, hy, hs⟩ := sz_Mux pf x w
  rw [hy]
  simp only [Option.bind_some]
  rcases hs.neg with b | ⟨b1, b2, b3⟩
  · simp only [b, decide_true, cond_true]
  · simp only [show ¬ y < 0 by omega, decide_false, cond_false, t_Mux pf x b3, s_MuxText pf (toM_len b3), i_MuxText pf (toM_len b3), e_TextResult, e_Mux pf (toM x) (toM_len b3), Option.bind_some, Bool.not_true]

end Go.Proofs.YtcmfekgdlaffkaaGreatDoor.Px
