/- What the functions of chapter 7 come to: BusGate, at any arguments. -/
import Derived.Test.YtbgmbnikpjjmcaaD07t
set_option linter.unusedVariables false
set_option linter.unusedSimpArgs false
set_option linter.unusedSectionVars false
namespace Go.Proofs.Ytbgmbnikpjjmcaa.AM.D07
open Go Go.Proofs.Ytbgmbnikpjjmcaa.AM Go.Proofs.Ytbgmbnikpjjmcaa.AM.C02 Go.Proofs.Ytbgmbnikpjjmcaa.AM.C07
theorem gate_wc (H : Heap) (_ : Begins [] H) {x1 : Cfg.T.D} {x2 : Trn.T.D} {x3 : List Int} {v1 v2 v3 : V} (h1 : VwV Cfg.T H x1 v1) (h2 : VwV Trn.T H x2 v2) (h3 : VwV (.sl (.int .u8)) H x3 v3)
    (hk : wt Cfg.T x1 + (wt Trn.T x2 + (wt (.sl (.int .u8)) x3 + 0)) ≤ 1048576) : WC F fn_rotalaw07_BusGate [v1, v2, v3] H fun v _ => v = .c (.bool true) := by
  obtain ⟨cs1, k1, ⟨-, rfl⟩ | ⟨h, -⟩⟩ := h1
  case inr => cases h
  obtain ⟨cs2, k2, ⟨-, rfl⟩ | ⟨h, -⟩⟩ := h2
  case inr => cases h
  obtain ⟨cs3, k3, ⟨h, -⟩ | ⟨-, w, rfl, rfl⟩⟩ := h3
  case inl => cases h
  obtain ⟨c, h, rfl, hc, -⟩ := cfg_row k1
  obtain ⟨t, ht, hw⟩ := trn_row k2
  obtain ⟨a3, c3, l, e3, s3, q1, q2, hby, hw3⟩ := Vw.nats rfl k3
  cases e3
  obtain ⟨a, ca, o, a2, c2, o2, rfl, hsn, hcp, h2, hs⟩ := ht H.length (Nat.le_refl _)
  refine gate_law hc (fun p hp => ?_) hcp (fun b x e => ?_) hs s3 hby (by omega) (by omega)
  · obtain ⟨a', ca', o', a2', c2', o2', e, hsn', -⟩ := ht p hp
    injection e with _ e
    injection e with e _
    injection e with e1 _
    subst e1
    exact hsn'
  · by_cases hb : b < H.length
    · exact hb
    · obtain ⟨a', ca', o', a2', c2', o2', e', -, -, h2', -⟩ := ht b (by omega)
      injection e' with _ e'
      injection e' with _ e'
      injection e' with e' _
      injection e' with e1 _
      subst e1
      exact absurd rfl (h2' b x e)
end Go.Proofs.Ytbgmbnikpjjmcaa.AM.D07
