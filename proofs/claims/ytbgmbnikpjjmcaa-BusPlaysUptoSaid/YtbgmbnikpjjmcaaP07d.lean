/- Chapter 7, plain: among sends of others, the owner's own. -/
import Derived.Test.YtbgmbnikpjjmcaaP07c
set_option linter.unusedVariables false
set_option linter.unusedSimpArgs false
set_option linter.unusedSectionVars false
namespace Go.Proofs.Ytbgmbnikpjjmcaa.AM.C07
open Go Go.Proofs.Ytbgmbnikpjjmcaa.AM Go.Proofs.Ytbgmbnikpjjmcaa.AM.C02
def OnlyM (o : Int) (mine : Snd) (l : List Snd) : Prop := ∀ s ∈ l, s.node = o → s = mine
theorem OnlyM.nil (o : Int) (mine : Snd) : OnlyM o mine [] := fun s h => by cases h
theorem OnlyM.add {o : Int} {mine s : Snd} {l : List Snd} (h : OnlyM o mine l) (hs : s.node ≠ o) : OnlyM o mine (l ++ [s]) := fun t ht hn => by
  rcases List.mem_append.1 ht with ht | ht
  · exact h t ht hn
  · obtain rfl := List.mem_singleton.1 ht
    exact absurd hn hs
theorem OnlyM.own {o : Int} {mine : Snd} {l : List Snd} (h : OnlyM o mine l) : OnlyM o mine (l ++ [mine]) := fun t ht hn => by
  rcases List.mem_append.1 ht with ht | ht
  · exact h t ht hn
  · exact List.mem_singleton.1 ht
end Go.Proofs.Ytbgmbnikpjjmcaa.AM.C07
