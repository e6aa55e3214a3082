/- What the functions of chapter 7 come to: a bus that carries twice. -/
import Derived.Test.YtbgmbnikpjjmcaaD07r
set_option linter.unusedVariables false
set_option linter.unusedSimpArgs false
set_option linter.unusedSectionVars false
namespace Go.Proofs.Ytbgmbnikpjjmcaa.AM.D07
open Go Go.Proofs.Ytbgmbnikpjjmcaa.AM Go.Proofs.Ytbgmbnikpjjmcaa.AM.C02 Go.Proofs.Ytbgmbnikpjjmcaa.AM.C07
set_option maxHeartbeats 2000000
set_option maxRecDepth 100000
theorem sub4 (a b c d : Cell) : sub [a, b, c, d] 0 4 = some [a, b, c, d] := rfl
attribute [local go_sem] tn_add1 tn_sub1 put_all' nums_len sub2 sub4
theorem becomes_len {c : Cpy} {l r : List Nat} (h : becomes c l = some r) : r.length = l.length := by
  unfold becomes at h
  split at h
  · cases h
  · split at h
    · cases h; exact P3.corr_len _ _ _
    · cases h; rfl
end Go.Proofs.Ytbgmbnikpjjmcaa.AM.D07
