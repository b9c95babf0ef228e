/- Chains of empty nodes: what calls of Empty answer. Nothing of a program's code. -/
import Derived.Test.YtgcompnpjpmanaaQo
namespace Go.Proofs.Ytgcompnpjpmanaa
open Go Go.RowKit Go.Proofs.Rg Go.Proofs.Mp Go.Proofs.Hp Go.Proofs.Qs
/-- a is the empty node of a level, and all below it are there -/
def Chain (s : Int) (ns : List K4) : Nat → Int → Prop
  | 0, a => a = 0
  | L + 1, a => ∃ (c : Int) (i : Nat), Chain s ns L c ∧ ns.idxOf? (four c) = some i ∧ a = s + i
theorem idx_append {ns t : List K4} {k : K4} {i : Nat} (h : ns.idxOf? k = some i) : (ns ++ t).idxOf? k = some i := by
  rw [List.idxOf?_eq_some_iff] at h ⊢
  obtain ⟨h1, h2, h3⟩ := h
  refine ⟨by simp; omega, by rw [List.getElem_append_left h1]; exact h2, fun j hj => ?_⟩
  rw [List.getElem_append_left (by omega)]
  exact h3 j hj
theorem idx_get {ns : List K4} {k : K4} {i : Nat} (h : ns.idxOf? k = some i) : ns[i]? = some k := by
  rw [List.idxOf?_eq_some_iff] at h
  obtain ⟨h1, h2, _⟩ := h
  rw [List.getElem?_eq_getElem h1]
  simpa using h2
theorem idx_last {ns : List K4} {k : K4} (h : ns.idxOf? k = none) : (ns ++ [k]).idxOf? k = some ns.length := by
  have hn : k ∉ ns := by simpa using h
  rw [List.idxOf?_eq_some_iff]
  refine ⟨by simp, by simp, fun j hj he => hn ?_⟩
  rw [List.getElem_append_left (by omega)] at he
  have he' : ns[j] = k := by simpa using he
  rw [← he']
  exact List.getElem_mem _
theorem Chain_append {s : Int} {ns : List K4} (t : List K4) : ∀ {L : Nat} {a : Int}, Chain s ns L a → Chain s (ns ++ t) L a
  | 0, _, h => h
  | _ + 1, _, ⟨c, i, h1, h2, h3⟩ => ⟨c, i, Chain_append t h1, idx_append h2, h3⟩
theorem Chain_level {s : Int} {ns : List K4} (hg : GoodQ s ns) : ∀ {L : Nat} {a : Int}, Chain s ns L a → lvl s (levs s ns) a = L
  | 0, a, h => by
    have h : a = 0 := h
    subst h
    have := hg.1
    unfold lvl
    rw [if_neg (by omega), if_pos (by omega)]
    rfl
  | L + 1, a, ⟨c, i, h1, h2, h3⟩ => by
    subst h3
    obtain ⟨M, _, _, h0, ha, _⟩ := node_down hg (idx_get h2)
    have := Chain_level hg h1
    simp only [four] at ha
    omega
theorem Chain_climb {s : Int} {ns : List K4} : ∀ {L : Nat} {a : Int}, Chain s ns L a → ∀ m n, climb s ns (L + m) 0 n = climb s ns m a (n + L)
  | 0, a, h, m, n => by
    have h : a = 0 := h
    subst h
    rw [Nat.zero_add, Nat.add_zero]
  | L + 1, a, ⟨c, i, h1, h2, h3⟩, m, n => by
    rw [show L + 1 + m = L + (m + 1) by omega, Chain_climb h1 (m + 1) n]
    rw [climb, h2, h3]
    rfl
theorem Chain_empty {s : Int} {ns : List K4} (hg : GoodQ s ns) {L : Nat} {a : Int} (hL : L ≤ 256) (h : Chain s ns L a) : emptyQ s ns L = ((a, 0), ns) := by
  have hc : climb s ns L 0 0 = (a, L) := by
    have := Chain_climb h 0 0
    rw [Nat.add_zero, Nat.zero_add] at this
    rw [this]
    rfl
  have hlen := hg.2.2.1
  unfold emptyQ
  rw [if_neg (by omega), show (L : Int).toNat = L by omega, hc]
  simp only [Nat.sub_self]
  rw [if_neg (by omega)]
  rfl
theorem climb_chain {s : Int} {ns : List K4} : ∀ (m : Nat) {id : Int} {n : Nat}, Chain s ns n id → Chain s ns (climb s ns m id n).2 (climb s ns m id n).1
  | 0, _, _, h => h
  | m + 1, id, n, h => by
    unfold climb
    split
    · rename_i i hi
      exact climb_chain m ⟨id, i, h, hi, rfl⟩
    · exact h
theorem grow_chain {s : Int} : ∀ (m : Nat) {id : Int} {n : Nat} {ns : List K4}, GoodQ s ns → Chain s ns n id → n + m ≤ 256 → ns.length + m ≤ 100000 →
    GoodQ s (grow s m id ns).2 ∧ Chain s (grow s m id ns).2 (n + m) (grow s m id ns).1
  | 0, _, _, _, hg, h, _, _ => ⟨hg, h⟩
  | m + 1, id, n, ns, hg, h, hn, hl => by
    have hlv := Chain_level hg h
    have hfit : Fits s ns (four id) := ⟨by show 0 ≤ lvl s (levs s ns) id; omega, by show lvl s (levs s ns) id < 256; omega, rfl, rfl, rfl⟩
    have hj : join s ns (four id) = joinIn s ns (four id) := by
      unfold join
      rw [if_neg (by show ¬ (lvl s (levs s ns) id < 0 ∨ lvl s (levs s ns) id < 0 ∨ lvl s (levs s ns) id < 0 ∨ lvl s (levs s ns) id < 0); omega), if_neg (fun hh => hh hfit)]
    unfold grow
    rw [hj, show n + (m + 1) = (n + 1) + m by omega]
    cases hi : ns.idxOf? (four id) with
    | some i =>
      rw [joinIn_hit hi]
      exact grow_chain m hg ⟨id, i, h, hi, rfl⟩ (by omega) (by show ns.length + m ≤ 100000; omega)
    | none =>
      rw [joinIn_new hi (by omega)]
      exact grow_chain m (hg.snoc hfit (by simpa using hi) (by omega)) ⟨id, ns.length, Chain_append _ h, idx_last hi, rfl⟩ (by omega) (by simp; omega)
theorem empty_first {s : Int} {ns : List K4} (hg : GoodQ s ns) {L : Nat} (hL : L ≤ 256) (hl : ns.length + L ≤ 100000) : ∃ a ns', emptyQ s ns L = ((a, 0), ns') ∧ GoodQ s ns' ∧ Chain s ns' L a := by
  have hk := climb_le (s := s) (ns := ns) L 0 0
  have hc := climb_chain (s := s) (ns := ns) L (id := 0) (n := 0) rfl
  obtain ⟨h1, h2⟩ := grow_chain (L - (climb s ns L 0 0).2) hg hc (by omega) (by omega)
  rw [show (climb s ns L 0 0).2 + (L - (climb s ns L 0 0).2) = L by omega] at h2
  refine ⟨_, _, ?_, h1, h2⟩
  unfold emptyQ
  rw [if_neg (by omega), show (L : Int).toNat = L by omega, if_neg (by omega)]
theorem empty_high {s : Int} {ns : List K4} {l : Int} (h : 256 < l) : emptyQ s ns l = ((0, 18), ns) := by
  unfold emptyQ
  rw [if_pos (.inr h)]
theorem join_len (s : Int) (ns : List K4) (k : K4) : (join s ns k).2.length ≤ ns.length + 1 := by
  unfold join
  split
  · simp
  · split
    · simp
    · unfold joinIn
      split
      · simp
      · split <;> simp
end Go.Proofs.Ytgcompnpjpmanaa
