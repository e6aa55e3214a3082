/- Plain: a configuration, and whether it may be. -/
import Derived.Test.YtbgmbnikpjjmcaaA4
set_option linter.unusedVariables false
set_option linter.unusedSimpArgs false
set_option linter.unusedSectionVars false
namespace Go.Proofs.Ytbgmbnikpjjmcaa.AM.C02
open Go Go.Proofs.Ytbgmbnikpjjmcaa.AM
noncomputable def dB (p : Prop) : Bool := @decide p (Classical.propDecidable p)
theorem dB_t {p : Prop} (h : p) : dB p = true := by unfold dB; exact @decide_eq_true p (Classical.propDecidable p) h
theorem dB_f {p : Prop} (h : ¬ p) : dB p = false := by unfold dB; exact @decide_eq_false p (Classical.propDecidable p) h
theorem dB_iff {p q : Prop} (h : p ↔ q) : dB p = dB q := by rw [propext h]
abbrev cn (x : Int) (l : List Int) : Nat := l.countP fun y => decide (y = x)
theorem cn_pos {x : Int} {l : List Int} : 0 < cn x l ↔ x ∈ l := by
  rw [List.countP_pos_iff]; simp
theorem cn_app (x : Int) (a b : List Int) : cn x (a ++ b) = cn x a + cn x b := List.countP_append
theorem cn_one (x y : Int) : cn x [y] = if y = x then 1 else 0 := by simp [cn, List.countP_cons]
def rng (n : Nat) (l : List Int) : Nat := l.countP fun y => decide (0 ≤ y ∧ y < (n : Int))
theorem rng_le (n : Nat) (l : List Int) : rng n l ≤ l.length := List.countP_le_length
theorem rng_s (n : Nat) : ∀ l : List Int, rng (n + 1) l = rng n l + cn (n : Int) l
  | [] => rfl
  | y :: l => by
    have ih := rng_s n l
    unfold rng cn at *
    rw [List.countP_cons, List.countP_cons, List.countP_cons, ih]
    by_cases h1 : y = (n : Int)
    · have d1 : decide (0 ≤ y ∧ y < ((n + 1 : Nat) : Int)) = true := decide_eq_true (by omega)
      have d2 : decide (0 ≤ y ∧ y < (n : Int)) = false := decide_eq_false (by omega)
      have d3 : decide (y = (n : Int)) = true := decide_eq_true h1
      rw [d1, d2, d3]; simp; omega
    · have d3 : decide (y = (n : Int)) = false := decide_eq_false h1
      by_cases h2 : 0 ≤ y ∧ y < (n : Int)
      · have d1 : decide (0 ≤ y ∧ y < ((n + 1 : Nat) : Int)) = true := decide_eq_true (by omega)
        have d2 : decide (0 ≤ y ∧ y < (n : Int)) = true := decide_eq_true h2
        rw [d1, d2, d3]; simp; omega
      · have d1 : decide (0 ≤ y ∧ y < ((n + 1 : Nat) : Int)) = false := decide_eq_false (by omega)
        have d2 : decide (0 ≤ y ∧ y < (n : Int)) = false := decide_eq_false h2
        rw [d1, d2, d3]; simp
theorem rng_ge {l : List Int} : ∀ n : Nat, (∀ k : Nat, k < n → (k : Int) ∈ l) → n ≤ rng n l ∧ ∀ k : Nat, k < n → 2 ≤ cn (k : Int) l → n + 1 ≤ rng n l
  | 0, _ => ⟨Nat.zero_le _, fun k hk => by omega⟩
  | n + 1, h => by
    obtain ⟨h1, h2⟩ := rng_ge n fun k hk => h k (by omega)
    have h3 := cn_pos.2 (h n (by omega))
    rw [rng_s]
    refine ⟨by omega, fun k hk hc => ?_⟩
    by_cases e : k = n
    · subst e; omega
    · have := h2 k (by omega) hc; omega
theorem once {l : List Int} {n : Nat} (hl : l.length = n) (h : ∀ k : Nat, k < n → (k : Int) ∈ l) (k : Nat) (hk : k < n) : cn (k : Int) l = 1 := by
  have h1 := cn_pos.2 (h k hk)
  have h2 := (rng_ge n h).2 k hk
  have h3 := rng_le n l
  omega
theorem rng_all {l : List Int} {n : Nat} (h : ∀ x ∈ l, 0 ≤ x ∧ x < (n : Int)) : rng n l = l.length := by
  unfold rng
  rw [List.countP_eq_length]; intro x hx; simpa using h x hx
theorem rng_few {l : List Int} : ∀ n : Nat, (∀ k : Nat, k < n → cn (k : Int) l ≤ 1) → rng n l ≤ n
  | 0, _ => by
    unfold rng
    rw [List.countP_eq_zero.2]
    · exact Nat.le_refl _
    · intro x _; simp
  | n + 1, h => by
    rw [rng_s]
    have h1 := rng_few n fun k hk => h k (by omega)
    have h2 := h n (by omega)
    omega
structure Pt where
  part : Int
  kind : Int
  dir : Int
  size : Int
  depth : Int
  fresh : Int
abbrev Pt.cells (p : Pt) : List Cell := [.int .i64 p.part, .int .i64 p.kind, .int .i64 p.dir, .int .i64 p.size, .int .i64 p.depth, .int .i64 p.fresh]
def Pt.ok (p : Pt) : Prop := (p.kind = 1 ∨ p.kind = 2) ∧ (p.dir = 1 ∨ p.dir = 2) ∧ 1 ≤ p.size ∧ p.size ≤ 32 ∧
  (p.kind = 2 → 1 ≤ p.depth ∧ p.depth ≤ 8 ∧ p.fresh = 0) ∧ (p.kind ≠ 2 → p.depth = 0 ∧ (p.dir = 2 → 1 ≤ p.fresh ∧ p.fresh ≤ 65535) ∧ (p.dir ≠ 2 → p.fresh = 0))
structure Pa where
  node : Int
  lo : Int
  hi : Int
structure Lk where
  src : Int
  dests : List Int
  off : Int
structure Cfg where
  nodes : Int
  owners : List Int
  drift : Int
  reading : Int
  margin : Int
  bound : Int
  rejoin : Int
  quota : Int
  parts : List Pa
  wins : List (List Int)
  ports : List Pt
  links : List Lk
abbrev Pa.cells (p : Pa) : List Cell := [.int .i64 p.node, .int .i64 p.lo, .int .i64 p.hi]
def pa0 : Pa := ⟨0, 0, 0⟩
def pt0 : Pt := ⟨0, 0, 0, 0, 0, 0⟩
def lk0 : Lk := ⟨0, [], 0⟩
namespace Cfg
variable (c : Cfg)
def part (n : Int) : Pa := c.parts.getD n.toNat pa0
def port (n : Int) : Pt := c.ports.getD n.toNat pt0
def link (n : Nat) : Lk := c.links.getD n lk0
def okNodes : Prop := 4 ≤ c.nodes ∧ c.nodes ≤ 16 ∧ (c.owners.length : Int) = c.nodes ∧ ∀ n : Nat, (n : Int) < c.nodes → (n : Int) ∈ c.owners
def prec : Int := 2 * (c.drift + c.reading) + 1
def okClock : Prop := 0 ≤ c.drift ∧ c.drift ≤ 1048576 ∧ 0 ≤ c.reading ∧ c.reading ≤ 1048576 ∧ 2 * c.prec + c.reading ≤ c.margin ∧ c.margin ≤ 16777216 ∧ 2 * c.prec + c.reading ≤ c.bound ∧ c.bound ≤ 16777216 ∧ 1 ≤ c.rejoin ∧ c.rejoin ≤ 8 ∧ 1 ≤ c.quota ∧ c.quota ≤ 16
def okPart (p : Pa) : Prop := 0 ≤ p.node ∧ p.node ≤ c.nodes - 1 ∧ 0 ≤ p.lo ∧ p.lo ≤ p.hi ∧ p.hi ≤ 256
def meets (a b d e : Int) : Prop := max a d < min b e
def apartP (i k : Nat) : Prop := ¬ ((c.part i).node = (c.part k).node ∧ meets (c.part i).lo (c.part i).hi (c.part k).lo (c.part k).hi)
def okParts : Prop := c.parts.length ≤ 32 ∧ (∀ p ∈ c.parts, c.okPart p) ∧ ∀ i k, i < k → k < c.parts.length → c.apartP i k
def okWin (n : Nat) (p : Int) : Prop := p = -1 ∨ (0 ≤ p ∧ p < c.parts.length ∧ (c.part p).node = n)
def okWins : Prop := (c.wins.length : Int) = c.nodes ∧ ∀ i row, c.wins[i]? = some row → (row.length : Int) = c.nodes ∧ ∀ p ∈ row, c.okWin i p
def okPort (p : Pt) : Prop := p.ok ∧ 0 ≤ p.part ∧ p.part < c.parts.length
def okPorts : Prop := c.ports.length ≤ 64 ∧ ∀ p ∈ c.ports, c.okPort p
def isP (n : Int) : Prop := 0 ≤ n ∧ n < c.ports.length
def okDest (s n : Int) : Prop := c.isP n ∧ (c.port n).dir = 2 ∧ (c.port n).kind = (c.port s).kind ∧ (c.port n).size = (c.port s).size
def okSrc (l : Lk) : Prop := c.isP l.src ∧ (c.port l.src).dir = 1 ∧ l.dests ≠ [] ∧ 0 ≤ l.off ∧ l.off ≤ 63 - (c.port l.src).size
def okLink (l : Lk) : Prop := c.okSrc l ∧ ∀ n ∈ l.dests, c.okDest l.src n
def used (ls : List Lk) : List Int := ls.flatMap fun l => l.src :: l.dests
def apartL (i k : Nat) : Prop := ¬ ((c.part (c.port (c.link i).src).part).node = (c.part (c.port (c.link k).src).part).node ∧
  meets (c.link i).off ((c.link i).off + 1 + (c.port (c.link i).src).size) (c.link k).off ((c.link k).off + 1 + (c.port (c.link k).src).size))
def okLinks : Prop := c.links.length ≤ 64 ∧ (∀ l ∈ c.links, c.okLink l) ∧ (∀ n : Int, cn n (used c.links) ≤ 1) ∧ ∀ i k, i < k → k < c.links.length → c.apartL i k
noncomputable def check : Int :=
  if dB c.okNodes = false then 21 else if dB c.okClock = false then 22 else if dB c.okParts = false then 23 else if dB c.okWins = false then 24 else if dB c.okPorts = false then 25 else if dB c.okLinks = false then 26 else 0
structure ok : Prop where
  nodes : c.okNodes
  clock : c.okClock
  parts : c.okParts
  wins : c.okWins
  ports : c.okPorts
  links : c.okLinks
end Cfg
theorem Cfg.check_ok {c : Cfg} : c.check = 0 ↔ c.ok := by
  unfold Cfg.check
  constructor
  · intro h
    repeat' split at h
    all_goals first | (simp at h; done) | skip
    have key : ∀ {p : Prop}, ¬ dB p = false → p := fun {p} h => Classical.byContradiction fun hn => h (dB_f hn)
    refine ⟨key ?_, key ?_, key ?_, key ?_, key ?_, key ?_⟩ <;> assumption
  · rintro ⟨h1, h2, h3, h4, h5, h6⟩
    simp [dB_t h1, dB_t h2, dB_t h3, dB_t h4, dB_t h5, dB_t h6]
def PaR (_ : Heap) (p : Pa) (cs : List Cell) : Prop := cs = p.cells ∧ i64 p.node ∧ i64 p.lo ∧ i64 p.hi
def PtR (_ : Heap) (p : Pt) (cs : List Cell) : Prop := cs = p.cells ∧ i64 p.part ∧ i64 p.kind ∧ i64 p.dir ∧ i64 p.size ∧ i64 p.depth ∧ i64 p.fresh
def RowR (N : Nat) (H : Heap) (r : List Int) (cs : List Cell) : Prop := ∃ a c, cs = [.sl a r.length c false] ∧ Sl H 1 a r.length (nums r) ∧ (∀ b x, a = some (b, x) → b < N) ∧ (∀ y ∈ r, i64 y) ∧ r.length ≤ c ∧ c ≤ maxLen
def LkR (N : Nat) (H : Heap) (l : Lk) (cs : List Cell) : Prop := ∃ a c, cs = [.int .i64 l.src, .sl a l.dests.length c false, .int .i64 l.off] ∧ Sl H 1 a l.dests.length (nums l.dests) ∧ (∀ b x, a = some (b, x) → b < N) ∧ (∀ y ∈ l.dests, i64 y) ∧ l.dests.length ≤ c ∧ c ≤ maxLen ∧ i64 l.src ∧ i64 l.off
structure CfgB (N : Nat) (H : Heap) (c : Cfg) (a1 a8 a9 a10 a11 : Option Ad) : Prop where
  owners : Sl H 1 a1 c.owners.length (nums c.owners)
  ownersN : ∀ b x, a1 = some (b, x) → b < N
  parts : Tab 3 PaR N H a8 c.parts
  wins : Tab 1 (RowR N) N H a9 c.wins
  ports : Tab 6 PtR N H a10 c.ports
  links : Tab 3 (LkR N) N H a11 c.links
  i_nodes : i64 c.nodes
  i_drift : i64 c.drift
  i_reading : i64 c.reading
  i_margin : i64 c.margin
  i_bound : i64 c.bound
  i_rejoin : i64 c.rejoin
  i_quota : i64 c.quota
  i_owners : ∀ y ∈ c.owners, i64 y
structure Hd where
  a1 : Option Ad
  c1 : Nat
  a8 : Option Ad
  c8 : Nat
  a9 : Option Ad
  c9 : Nat
  a10 : Option Ad
  c10 : Nat
  a11 : Option Ad
  c11 : Nat
abbrev Cfg.cells (c : Cfg) (h : Hd) : List Cell := [.int .i64 c.nodes, .sl h.a1 c.owners.length h.c1 false, .int .i64 c.drift, .int .i64 c.reading, .int .i64 c.margin, .int .i64 c.bound, .int .i64 c.rejoin, .int .i64 c.quota,
  .sl h.a8 c.parts.length h.c8 false, .sl h.a9 c.wins.length h.c9 false, .sl h.a10 c.ports.length h.c10 false, .sl h.a11 c.links.length h.c11 false]
structure Caps (c : Cfg) (h : Hd) : Prop where
  owners : c.owners.length ≤ h.c1 ∧ h.c1 ≤ maxLen
  parts : c.parts.length ≤ h.c8 ∧ h.c8 ≤ maxLen
  wins : c.wins.length ≤ h.c9 ∧ h.c9 ≤ maxLen
  ports : c.ports.length ≤ h.c10 ∧ h.c10 ≤ maxLen
  links : c.links.length ≤ h.c11 ∧ h.c11 ≤ maxLen
abbrev CfgM (N : Nat) (H : Heap) (c : Cfg) (h : Hd) : Prop := CfgB N H c h.a1 h.a8 h.a9 h.a10 h.a11
theorem RowR.keep {N : Nat} {H H' : Heap} {r : List Int} {cs : List Cell} (hx : ∀ c, c < N → H'[c]? = H[c]?) (h : RowR N H r cs) : RowR N H' r cs := by
  obtain ⟨a, c, rfl, h1, h2, h3⟩ := h
  exact ⟨a, c, rfl, h1.keep fun b x e => hx b (h2 b x e), h2, h3⟩
theorem LkR.keep {N : Nat} {H H' : Heap} {l : Lk} {cs : List Cell} (hx : ∀ c, c < N → H'[c]? = H[c]?) (h : LkR N H l cs) : LkR N H' l cs := by
  obtain ⟨a, c, rfl, h1, h2, h3⟩ := h
  exact ⟨a, c, rfl, h1.keep fun b x e => hx b (h2 b x e), h2, h3⟩
theorem CfgB.keep {N : Nat} {H H' : Heap} {c : Cfg} {a1 a8 a9 a10 a11 : Option Ad} (h : CfgB N H c a1 a8 a9 a10 a11) (hx : ∀ c, c < N → H'[c]? = H[c]?) : CfgB N H' c a1 a8 a9 a10 a11 where
  owners := h.owners.keep fun b x e => hx b (h.ownersN b x e)
  ownersN := h.ownersN
  parts := h.parts.keep (fun _ _ k => k) hx
  wins := h.wins.keep (fun _ _ k => RowR.keep hx k) hx
  ports := h.ports.keep (fun _ _ k => k) hx
  links := h.links.keep (fun _ _ k => LkR.keep hx k) hx
  i_nodes := h.i_nodes
  i_drift := h.i_drift
  i_reading := h.i_reading
  i_margin := h.i_margin
  i_bound := h.i_bound
  i_rejoin := h.i_rejoin
  i_quota := h.i_quota
  i_owners := h.i_owners
abbrev I : Ty := .int .i64
abbrev Pa.T : Ty := .pair I (.pair I (.pair I .unit))
abbrev Pt.T : Ty := .pair I (.pair I (.pair I (.pair I (.pair I (.pair I .unit)))))
abbrev Lk.T : Ty := .pair I (.pair (.sl I) (.pair I .unit))
abbrev Cfg.T : Ty := .pair I (.pair (.sl I) (.pair I (.pair I (.pair I (.pair I (.pair I (.pair I (.pair (.sl Pa.T) (.pair (.sl (.sl I)) (.pair (.sl Pt.T) (.pair (.sl Lk.T) .unit)))))))))))
theorem pa_row {H : Heap} {x : Pa.T.D} {cs : List Cell} (h : Vw Pa.T H x cs) : ∃ e, PaR H e cs := by
  obtain ⟨_, _, rfl, ⟨rfl, w1⟩, _, _, rfl, ⟨rfl, w2⟩, _, _, rfl, ⟨rfl, w3⟩, rfl⟩ := h
  exact ⟨⟨_, _, _⟩, rfl, wf_i64 w1, wf_i64 w2, wf_i64 w3⟩
theorem pt_row {H : Heap} {x : Pt.T.D} {cs : List Cell} (h : Vw Pt.T H x cs) : ∃ e, PtR H e cs := by
  obtain ⟨_, _, rfl, ⟨rfl, w1⟩, _, _, rfl, ⟨rfl, w2⟩, _, _, rfl, ⟨rfl, w3⟩, _, _, rfl, ⟨rfl, w4⟩, _, _, rfl, ⟨rfl, w5⟩, _, _, rfl, ⟨rfl, w6⟩, rfl⟩ := h
  exact ⟨⟨_, _, _, _, _, _⟩, rfl, wf_i64 w1, wf_i64 w2, wf_i64 w3, wf_i64 w4, wf_i64 w5, wf_i64 w6⟩
theorem row_row {H : Heap} {x : List Int} {cs : List Cell} (h : Vw (.sl I) H x cs) : ∃ e, RowR H.length H e cs := by
  obtain ⟨a, c, rfl, h1, h2, h3, h4⟩ := Vw.nums h
  exact ⟨x, a, c, rfl, h3, fun b x e => h3.lt e, h4, h1, h2⟩
end Go.Proofs.Ytbgmbnikpjjmcaa.AM.C02
