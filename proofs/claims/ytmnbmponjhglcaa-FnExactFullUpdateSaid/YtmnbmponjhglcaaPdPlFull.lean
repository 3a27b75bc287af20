/- Plain law of FullUpdate. Conditions: none. -/
import Derived.Test.YtmnbmponjhglcaaPdPlMk
namespace Go.Proofs.Ytmnbmponjhglcaa.Pd
open Go Go.RowKit Go.Proofs Vm
set_option linter.unusedVariables false
set_option linter.unusedSimpArgs false
set_option maxRecDepth 100000

theorem s_FullUpdate {fu : Nat} (hf : 2000000 ≤ fu) (c : S_impl_Config) (hc : ConfLen c) : F_spec_FullUpdate_U fu c = some (bif conff c != 0 then failT (conff c) else fullT c (copyS c.Vips.f c.Vips.n)) := by
  unfold F_spec_FullUpdate_U
  simp only [s_ConfFault hf c hc, s_Copy hf c hc, Option.bind_some, Nat.le_refl, decide_true, Bool.and_self, cond_true]
  cases (conff c != 0) <;> rfl
theorem i_FullUpdate {fu : Nat} (hf : 2000000 ≤ fu) (c : S_impl_Config) (hc : ConfLen c) : F_impl_FullUpdate_U fu c = some (bif conff c != 0 then failT (conff c) else fullT c (copyI c.Vips.f c.Vips.n)) := by
  unfold F_impl_FullUpdate_U F_impl_full_U
  simp only [i_ConfigFault hf c hc, i_Copy hf c hc, Option.bind_some, Nat.le_refl, decide_true, Bool.and_self, cond_true]
  cases (conff c != 0) <;> rfl

theorem plain_FnExactFullUpdate (x : S_laws_Config) (w : W_laws_Config x) : F_laws_FnExactFullUpdate plainFuel x = some true := by
  unfold F_laws_FnExactFullUpdate
  obtain ⟨y, h1, s1⟩ := sz_Config pf x w (left := 1048576) (by omega) (by omega)
  simp only [h1, Option.bind_some]
  rcases s1.neg with a | ⟨a1, a2, hx⟩
  · simp [a]
  · have hl := toConf_len hx
    have hC : (⟨x.Version, ⟨none, x.Backends.n, (toConf x).Backends.f⟩, ⟨none, x.Vips.n, (toConf x).Vips.f⟩⟩ : S_impl_Config) = toConf x := rfl
    simp only [show ¬ y < 0 by omega, decide_false, cond_false, tu_Config pf x hx, Option.bind_some, hC, s_FullUpdate pf _ hl, i_FullUpdate pf _ hl, e_Config pf _ hl, Bool.not_true]
    obtain ⟨m, hm, hm0, hm1⟩ := mu_Config pf x hx
    simp only [hm, Option.bind_some, show ¬ m.1 < 0 by omega, decide_false, cond_false]
    generalize toConf x = c at hl
    cases (conff c != 0) with
    | true =>
      obtain ⟨k, bf', vf', cf', e1, e2, e3⟩ := xy_UpdateResult pf (conff c) 0 0 false 0 0 0 0 (fun _ => dflt .impl_Backend) (fun _ => dflt .impl_Vip) (fun _ => dflt .impl_Cmd) (by omega) (by omega) (by omega) (fun m hm => absurd hm (Nat.not_lt_zero _))
      have q := q_UpdateResult pf (conff c) 0 0 false 0 0 0 0 (fun _ => dflt .impl_Backend) (fun _ => dflt .impl_Vip) (fun _ => dflt .impl_Vip) (fun _ => dflt .impl_Cmd) (by omega) (by omega) (by omega) (fun m hm => absurd hm (Nat.not_lt_zero _)) (fun _ _ => rfl)
      simp only [cond_true, failT, q, e1, e2, e3, Option.bind_some, Bool.not_true, cond_false, decide_false, bne_self_eq_false]
    | false =>
      have hI := copy_vips (n := c.Vips.n) (f := c.Vips.f) hl.names
      obtain ⟨k, bf', vf', cf', e1, e2, e3⟩ := xy_UpdateResult pf 0 0 c.Version true c.Version c.Backends.n c.Vips.n 0 c.Backends.f (copyI c.Vips.f c.Vips.n) (fun _ => dflt .impl_Cmd) hl.backends hl.vips (by omega) hI
      have q := q_UpdateResult pf 0 0 c.Version true c.Version c.Backends.n c.Vips.n 0 c.Backends.f (copyI c.Vips.f c.Vips.n) (copyS c.Vips.f c.Vips.n) (fun _ => dflt .impl_Cmd) hl.backends hl.vips (by omega) hI (fun i hi => copy_same _ _ _ hi)
      simp only [cond_false, fullT, q, e1, e2, e3, Option.bind_some, Bool.not_true, decide_false, bne_self_eq_false]

end Go.Proofs.Ytmnbmponjhglcaa.Pd
