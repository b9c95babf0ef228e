/- Own texts of this claim, part 41: no condition. -/
import Derived.Test.YtppmnmheodimoaaZM38
section
/- A step again. -/
namespace Go.Proofs.Ytppmnmheodimoaa
open Go Go.RowKit Go.Proofs.Rg Go.Proofs.Mp Go.Proofs.Hp Go.Proofs.Qs Go.Proofs.Ev
set_option linter.unusedVariables false
set_option linter.unusedSimpArgs false
/-- blocks as a thing -/
def blks (l : List (Nat × Obj)) : Res where
  holds w F := (∀ p ∈ l, w.heap[p.1]? = some p.2) ∧ F = l.map (·.1)
  keep := fun ⟨h1, h2⟩ hk => ⟨fun p hp => (hk p.1 (by rw [h2]; exact List.mem_map_of_mem hp)).trans (h1 p hp), h2⟩
  lt := fun ⟨h1, h2⟩ x hx => by
    rw [h2] at hx
    obtain ⟨p, hp, rfl⟩ := List.mem_map.1 hx
    exact lt_of_block (h1 p hp)
theorem has_blks {w w' : World} {l : List (Nat × Obj)} (hf : Fr [] w w') (h : ∀ p ∈ l, w'.heap[p.1]? = some p.2 ∧ w.heap.size ≤ p.1) : Has w w' [blks l] :=
  (Has.nil (Fr.refl [] w)).new (F := l.map (·.1)) hf ⟨fun p hp => (h p hp).1, rfl⟩ fun x hx => by
    obtain ⟨p, hp, rfl⟩ := List.mem_map.1 hx
    exact (h p hp).2
theorem cost_two : ((List.range 2).all fun a => (List.range 7).all fun n => (List.range 5).all fun k => (List.range 5).all fun l => decide (k = l) || decide (cost (a + 2) n k + cost (a + 2) n l ≤ 88000)) = true := by decide +kernel
theorem cost_pair {lost n k l : Nat} (h1 : 2 ≤ lost) (h2 : lost ≤ 3) (hn : n ≤ 6) (hk : k ≤ 4) (hl : l ≤ 4) (hne : k ≠ l) : cost lost n k + cost lost n l ≤ 88000 := by
  have h := cost_two
  simp only [List.all_eq_true, List.mem_range] at h
  have := h (lost - 2) (by omega) n (by omega) k (by omega) l (by omega)
  rw [show lost - 2 + 2 = lost by omega] at this
  simpa [hne] using this
/-- the trees that steps with two exponents may add -/
theorem again_list {r : Rule} {ns : List K4} {id k l : Int} (hg : GoodQ r.S ns) (hlen : ns.length ≤ 600) (hlv : lvl r.S (levs r.S ns) id ≤ 6) :
    ∃ L, room r.S ns L ∧ ∀ (n k' : Nat) (t : Tr), Is r.S ns n id t → (k = k' ∨ l = k') → lostOf (radius r.hood) ≤ n → k' ≤ n - lostOf (radius r.hood) → n ≤ 200 ∧ ∀ u ∈ need (gen r) (lostOf (radius r.hood)) n k' t, u ∈ L := by
  have hl := lost_le (radius_le r.hood).1 (radius_le r.hood).2
  have one : ∀ x : Int, ∃ L : List Tr, (∀ (n k' : Nat) (t : Tr), Is r.S ns n id t → x = k' → lostOf (radius r.hood) ≤ n → k' ≤ n - lostOf (radius r.hood) → n ≤ 6 ∧ L = need (gen r) (lostOf (radius r.hood)) n k' t) ∧ (L = [] ∨ ∃ n k' : Nat, n ≤ 6 ∧ k' ≤ 4 ∧ x = k' ∧ (∃ t, Is r.S ns n id t) ∧ L.length = cost (lostOf (radius r.hood)) n k') := by
    intro x
    by_cases hok : ∃ (n k' : Nat) (t : Tr), Is r.S ns n id t ∧ x = k' ∧ lostOf (radius r.hood) ≤ n ∧ k' ≤ n - lostOf (radius r.hood)
    · obtain ⟨n, k', t, hi, hx, h1, h2⟩ := hok
      have hn : n ≤ 6 := by have := hi.lvl hg; omega
      refine ⟨need (gen r) (lostOf (radius r.hood)) n k' t, fun n2 k2 t2 hi2 hk2 h3 h4 => ?_, .inr ⟨n, k', hn, by omega, hx, ⟨t, hi⟩, need_length _ _ _ _ _⟩⟩
      obtain ⟨rfl, rfl⟩ := Is.same hg hi hi2
      obtain rfl : k' = k2 := by omega
      exact ⟨hn, rfl⟩
    · exact ⟨[], fun n k' t h1 h2 h3 h4 => absurd ⟨n, k', t, h1, h2, h3, h4⟩ hok, .inl rfl⟩
  obtain ⟨L1, h1, c1⟩ := one k
  obtain ⟨L2, h2, c2⟩ := one l
  have b1 : L1.length ≤ 61881 := by
    rcases c1 with h | ⟨n, k', hn, hk, _, _, hc⟩
    · rw [h]; simp
    · rw [hc]; exact cost_all hl.1 hl.2 hn hk
  have b2 : L2.length ≤ 61881 := by
    rcases c2 with h | ⟨n, k', hn, hk, _, _, hc⟩
    · rw [h]; simp
    · rw [hc]; exact cost_all hl.1 hl.2 hn hk
  by_cases hkl : k = l
  · subst hkl
    refine ⟨L1, room.of_len (by omega), fun n k' t hi hk h3 h4 => ?_⟩
    have hk : k = k' := by omega
    obtain ⟨a, b⟩ := h1 n k' t hi hk h3 h4
    exact ⟨by omega, fun u hu => by rw [b]; exact hu⟩
  · refine ⟨L1 ++ L2, room.of_len ?_, fun n k' t hi hk h3 h4 => ?_⟩
    · rw [List.length_append]
      rcases c1 with h | ⟨n, k', hn, hk, hx, ⟨t, hi⟩, hc⟩
      · rw [h]; simp; omega
      · rcases c2 with h | ⟨m, k2, hm, hk2, hx2, ⟨t2, hi2⟩, hc2⟩
        · rw [h]; simp; omega
        · obtain ⟨rfl, _⟩ := Is.same hg hi hi2
          have := cost_pair hl.1 hl.2 hn hk hk2 (by omega)
          rw [hc, hc2]; omega
    · rcases hk with hk | hk
      · obtain ⟨a, b⟩ := h1 n k' t hi hk h3 h4
        exact ⟨by omega, fun u hu => List.mem_append_left _ (by rw [b]; exact hu)⟩
      · obtain ⟨a, b⟩ := h2 n k' t hi hk h3 h4
        exact ⟨by omega, fun u hu => List.mem_append_right _ (by rw [b]; exact hu)⟩
theorem quad_cells {w : World} {a : Option Addr} {n c : Nat} {ns : List K4} (h : Reads w (.slice a n c) n 4 (flat ns)) {i : Nat} {k : K4} (hi : ns[i]? = some k) :
    ∃ g off, a = some ⟨g, off, none⟩ ∧ g < w.heap.size ∧ w.cell? ⟨g, off + i * 4, none⟩ = some (.int .i64 k.a) ∧ w.cell? ⟨g, off + i * 4 + 1, none⟩ = some (.int .i64 k.b) ∧ w.cell? ⟨g, off + i * 4 + 2, none⟩ = some (.int .i64 k.c) ∧ w.cell? ⟨g, off + i * 4 + 3, none⟩ = some (.int .i64 k.d) := by
  obtain ⟨hl, a', c', he, hp⟩ := h
  cases he
  have hlt := (List.getElem?_eq_some_iff.1 hi).1
  rw [flat_length] at hl
  obtain ⟨g, off, rfl, hg, hc⟩ := hp (by omega)
  obtain ⟨f0, f1, f2, f3⟩ := flat_get hi
  refine ⟨g, off, rfl, hg, ?_, ?_, ?_, ?_⟩
  · rw [show off + i * 4 = off + 4 * i by omega]; exact hc _ _ f0
  · rw [show off + i * 4 + 1 = off + (4 * i + 1) by omega]; exact hc _ _ f1
  · rw [show off + i * 4 + 2 = off + (4 * i + 2) by omega]; exact hc _ _ f2
  · rw [show off + i * 4 + 3 = off + (4 * i + 3) by omega]; exact hc _ _ f3
theorem run_field_N (w : World) (s : Int) (a : Option Addr) (n c : Nat) : (Instr.field 39 (.agg #[.int .i64 s, .slice a n c]) 1).run Try.prog w = .ok (.slice a n c) w := by
  simp [Instr.field, Sem.run_bind, run_underlying, Try.underlying39, part, go_sem, asAgg, isAgg, Try.underlying37]
section
variable {W w' : World} {r : Rule} {hv nv : Value} {mb sb rb : Nat} {L : List Tr} {ns : List K4} {mm : List ((Int × Int) × Int)} {id k : Int} {Ps : List Res} {e : Ending}
theorem StepEnd.kept (h : StepEnd W r hv nv mb sb rb L ns mm id k Ps e w') (hroom : room r.S ns L) (hkept : Kept r ns mm) :
    ∃ x y ns' mm', e = .returned (.tuple #[.int .i64 x, .int .i64 y]) ∧ Has W w' (memoL r hv nv mb sb rb ns' mm' Ps) ∧ ns <+: ns' ∧ room r.S ns' L ∧ Kept r ns' mm' ∧ Keeps mm mm' := by
  rcases h with ⟨_, h1, h2⟩ | ⟨_, _, _, _, h1, h2⟩ | ⟨_, _, _, _, _, _, _, res, ns', mm', h1, h2, h3, h4, h5, _, h6, _⟩
  · exact ⟨_, _, ns, mm, h1, h2, List.prefix_refl _, hroom, hkept, Keeps.refl mm⟩
  · exact ⟨_, _, ns, mm, h1, h2, List.prefix_refl _, hroom, hkept, Keeps.refl mm⟩
  · exact ⟨res, 0, ns', mm', h1, h2, h3, h4, h5, h6⟩
theorem StepEnd.ok (h : StepEnd W r hv nv mb sb rb L ns mm id k Ps e w') (hg : GoodQ r.S ns) {n k' : Nat} {t : Tr} (hi : Is r.S ns n id t) (hk : k = k') (h1 : lostOf (radius r.hood) ≤ n) (h2 : k' ≤ n - lostOf (radius r.hood)) (hn : n ≤ 6) :
    StepPost W r hv nv mb sb rb L ns mm n k' id (stp (gen r) n k' t) Ps e w' := by
  rcases h with ⟨h3, _⟩ | ⟨m, u, hi2, hb, _⟩ | ⟨m, u, k2, hi2, hk2, _, _, h3⟩
  · exact absurd hi.kn h3
  · exact (step_differ hg hi2 hb hi hk h1 h2 hn).elim
  · obtain ⟨rfl, rfl⟩ := Is.same hg hi hi2
    obtain rfl : k' = k2 := by omega
    exact h3
end
end Go.Proofs.Ytppmnmheodimoaa
end
