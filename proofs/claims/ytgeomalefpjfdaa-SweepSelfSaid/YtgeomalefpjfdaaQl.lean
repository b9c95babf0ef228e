/- Load, Right of package quad. -/
import Derived.Test.YtgeomalefpjfdaaQt
import Derived.Test.YtgeomalefpjfdaaQb
namespace Go.Proofs.Ytgeomalefpjfdaa
open Go Go.RowKit Go.Proofs.Rg Go.Proofs.Mp Go.Proofs.Hp Go.Proofs.Qs
instance (s : Int) (ns : List K4) : Decidable (GoodQ s ns) := by
  have : GoodQ s ns ↔ 2 ≤ s ∧ s ≤ 8 ∧ ns.length ≤ 100000 ∧ ns.Nodup ∧ ∀ i : Fin ns.length, Fits s (ns.take i) ns[i] := by
    unfold GoodQ
    constructor
    · rintro ⟨h1, h2, h3, h4, h5⟩
      exact ⟨h1, h2, h3, h4, fun i => h5 i _ (by simp)⟩
    · rintro ⟨h1, h2, h3, h4, h5⟩
      refine ⟨h1, h2, h3, h4, fun i k hi => ?_⟩
      obtain ⟨h, rfl⟩ := List.getElem?_eq_some_iff.1 hi
      exact h5 ⟨i, h⟩
  exact decidable_of_iff _ this.symm
theorem goodQ_take {s : Int} {ns : List K4} (h : GoodQ s ns) (i : Nat) : GoodQ s (ns.take i) := by
  obtain ⟨h1, h2, h3, h4, h5⟩ := h
  refine ⟨h1, h2, by rw [List.length_take]; omega, h4.sublist (List.take_sublist _ _), fun j k hj => ?_⟩
  rw [List.getElem?_take] at hj
  split at hj
  · rename_i hji
    rw [List.take_take, Nat.min_eq_left (by omega)]
    exact h5 j k hj
  · cases hj
theorem goodQ_step {s : Int} {ns : List K4} (h : GoodQ s ns) {i : Nat} (hi : i < ns.length) : Fits s (ns.take i) ns[i] ∧ ns[i] ∉ ns.take i := by
  obtain ⟨h1, h2, h3, h4, h5⟩ := h
  refine ⟨h5 i _ (List.getElem?_eq_getElem hi), fun hm => ?_⟩
  obtain ⟨j, hj, e⟩ := List.getElem_of_mem hm
  rw [List.length_take] at hj
  rw [List.getElem_take] at e
  exact (List.pairwise_iff_getElem.1 h4) j i (by omega) hi (by omega) e
theorem take_snoc {ns : List K4} {i : Nat} (hi : i < ns.length) : ns.take (i + 1) = ns.take i ++ [ns[i]] := by
  rw [List.take_add_one, List.getElem?_eq_getElem hi]; rfl
theorem join_ok {s : Int} {ns : List K4} {k : K4} (h : Fits s ns k) (hn : k ∉ ns) (hl : ns.length < 100000) : join s ns k = ((s + ns.length, 0), ns ++ [k]) := by
  unfold join
  have hf := h
  unfold Fits at hf
  rw [if_neg (by omega), if_neg (by simpa using h), joinIn_new (by simpa using hn) hl]
theorem join_bad {s : Int} {ns : List K4} {k : K4} (h : ¬ (Fits s ns k ∧ k ∉ ns)) (_ : ns.length < 100000) : (join s ns k).1.2 ≠ 0 ∨ (join s ns k).1.1 ≠ s + ns.length := by
  unfold join
  split
  · left; simp
  · split
    · left; simp
    · rename_i hf
      have hf := Decidable.not_not.1 hf
      have hk : k ∈ ns := by
        rcases Decidable.em (k ∈ ns) with h' | h'
        · exact h'
        · exact absurd ⟨hf, h'⟩ h
      obtain ⟨i, hi⟩ : ∃ i, ns.idxOf? k = some i := by
        cases hx : ns.idxOf? k with
        | none => rw [List.idxOf?_eq_none_iff] at hx; exact absurd hk hx
        | some i => exact ⟨i, rfl⟩
      rw [joinIn_hit hi]
      right
      rw [List.idxOf?_eq_some_iff] at hi
      obtain ⟨h1, _⟩ := hi
      simp; omega
/-- what Load leaves -/
def LoadPost (w : World) (s : Int) (ns : List K4) (e : Ending) (w' : World) : Prop :=
  (GoodQ s ns → ∃ b F, e = .returned (.tuple #[.pointer (some ⟨b, 0, none⟩), .int .i64 0]) ∧ StoreAt w' b s ns F ∧ Fr [] w w' ∧ ∀ x ∈ F, w.heap.size ≤ x) ∧
  (¬ GoodQ s ns → e = .returned (.tuple #[.pointer none, .int .i64 2]) ∧ Fr [] w w')
set_option maxHeartbeats 4000000 in
theorem Load_calls {w : World} {s : Int} {ns : List K4} {v : Value} (hl : ns.length ≤ 100000) (hv : Reads w v ns.length 4 (flat ns)) :
    Calls Try.prog 25 #[.agg #[.int .i64 s, v]] w (LoadPost w s ns) := by
  have hvk := hv
  obtain ⟨_, a, c, rfl, hav⟩ := hv
  by_cases hbad : s < 2 ∨ 8 < s
  · have hng : ¬ GoodQ s ns := fun h => by have := h.1; have := h.2.1; omega
    have Hl := Lib.hid hl
    clear hl hav hvk
    go_enter Try.func25, Try.ntmps25
    go_wp2_with fail
    refine (New_bad s _ hbad).mono ?_
    rintro e w' ⟨rfl, rfl⟩
    go_wp2
    go_ret2
    exact ⟨fun h => absurd h hng, fun _ => ⟨rfl, by (repeat (first | exact Fr.refl _ _ | assumption | apply Fr.drewN | apply Fr.drew | apply Fr.alloc | refine Fr.setCell ?_ (Or.inr (by simp; try omega)) _))⟩⟩
  · have hl2 : ns.length ≤ 1048576 := by omega
    have Hl := Lib.hid hl
    have Hav := Lib.hid hav
    have Hvk := Lib.hid hvk
    have hs1 : 2 ≤ s := by omega
    have hs2 : s ≤ 8 := by omega
    clear hav hvk hbad hl
    have hd : decide ((100000 : Int) < ↑ns.length) = false := by have := Hl.out; simp; omega
    go_enter Try.func25, Try.ntmps25
    go_wp2_with fail
    refine (New_ok s _ hs1 hs2).mono ?_
    rintro e w1 ⟨b, F0, rfl, hS0, hf0, hF0⟩
    have hbx : w1.heap[w.heap.size]? = some (.cells #[.int .i64 s, .slice a ns.length c] 24 (0, 0)) := (hf0.block _ (by simp) (by simp)).trans (by (repeat (first | rw [if_pos (by omega)] | rw [if_neg (by omega)] | rw [hp_drew] | rw [hp_drewN] | rw [hp_alloc_size] | rw [hp_setCell_size] | rw [hp_alloc] | rw [hp_setCell] | rw [Option.map_some] | rw [upd_cells] | rw [List.set_cons_zero] | rw [List.set_cons_succ] | rfl)))
    have c0 := heap_eq_cell hbx 0
    have c1 := heap_eq_cell hbx 1
    have hfw : Fr [] w w1 := ((Fr.refl _ _).alloc _).trans0 hf0
    have Hbx := Lib.hid hbx
    have Hfw := Lib.hid hfw
    have HF0 := Lib.hid hF0
    clear hbx hf0 hfw hF0
    go_wp2
    go_loopw [27] (fun x wr => ∃ (k : Nat) (F' : List Nat), x = .int .i64 k ∧ k ≤ ns.length ∧ GoodQ s (ns.take k) ∧ StoreAt wr b s (ns.take k) F' ∧ Fr [] w wr ∧ (∀ x ∈ F', w.heap.size + 1 ≤ x) ∧ wr.heap[w.heap.size]? = some (.cells #[.int .i64 s, .slice a ns.length c] 24 (0, 0))) (fun x _ => ns.length - (intOf x).toNat)
    case atStart => exact ⟨0, F0, rfl, by omega, GoodQ.nil hs1 hs2, hS0, Hfw.out, fun x hx => by have := HF0.out x hx; simp at this; omega, Hbx.out⟩
    case round =>
      obtain ⟨k, F', rfl, hk, hg, hS', hf', hF', hb'⟩ := hrel
      have c0 := heap_eq_cell hb' 0
      have c1 := heap_eq_cell hb' 1
      have hwlt : w.heap.size < wr.heap.size := lt_of_block hb'
      have Hf := Lib.hid hf'
      have HF := Lib.hid hF'
      have HB := Lib.hid hb'
      have HG := Lib.hid hg
      clear hf' hF' hb' hg
      by_cases hlt : k < ns.length
      · obtain ⟨g, off, rfl, hg, hc⟩ := Hav.out (by omega)
        obtain ⟨f0, f1, f2, f3⟩ := flat_get (List.getElem?_eq_getElem hlt)
        rw [Nat.mul_comm] at f0 f1 f2 f3
        obtain ⟨x, hx⟩ : ∃ x, x = ns[k] := ⟨_, rfl⟩
        rw [← hx] at f0 f1 f2 f3
        have hgw : ∀ j, wr.cell? ⟨g, off + j, none⟩ = w.cell? ⟨g, off + j, none⟩ := fun j => Hf.out.cell (p := ⟨g, off + j, none⟩) hg (by simp)
        have e0 := (hgw _).trans (hc _ _ f0)
        have e1 := (hgw _).trans (hc _ _ f1)
        have e2 := (hgw _).trans (hc _ _ f2)
        have e3 := (hgw _).trans (hc _ _ f3)
        simp only [← Nat.add_assoc] at e1 e2 e3
        have hgr : g < wr.heap.size := by omega
        have Hx := Lib.hid hx
        clear hx hc f0 f1 f2 f3 hgw
        have hJ : ∀ w1, Fr [] wr w1 → Calls Try.prog 33 #[.pointer (some ⟨b, 0, none⟩), .int .i64 x.a, .int .i64 x.b, .int .i64 x.c, .int .i64 x.d] w1 (JoinPost w1 b s (ns.take k) F' x) := fun w1 hf => Join_calls (hS'.fr hf (by simp)) x
        go_wp2_with fail
        refine (hJ _ (by (repeat (first | exact Fr.refl _ _ | assumption | apply Fr.drewN | apply Fr.drew | apply Fr.alloc | refine Fr.setCell ?_ (Or.inr (by simp; try omega)) _)))).mono ?_
        clear hJ
        rintro e w2 ⟨rfl, F2, hS2, hf2, hF2⟩
        have hb2 : w2.heap[w.heap.size]? = some (.cells #[.int .i64 s, .slice (some ⟨g, off, none⟩) ns.length c] 24 (0, 0)) := by
          refine (hf2.block _ (by simp; omega) fun h => ?_).trans ?_
          · have := HF.out _ h; omega
          · rw [← HB.out]; (repeat (first | rw [if_pos (by omega)] | rw [if_neg (by omega)] | rw [hp_drew] | rw [hp_drewN] | rw [hp_alloc_size] | rw [hp_setCell_size] | rw [hp_alloc] | rw [hp_setCell] | rw [Option.map_some] | rw [upd_cells] | rw [List.set_cons_zero] | rw [List.set_cons_succ] | rfl))
        have c0 := heap_eq_cell hb2 0
        have c1 := heap_eq_cell hb2 1
        have hlk : (ns.take k).length = k := by rw [List.length_take]; omega
        have hfr2 : Fr [] w w2 := by
          have h1 : Fr F' wr w2 := by
            refine Fr.trans ?_ hf2 fun x hx => .inl hx
            (repeat (first | exact Fr.refl _ _ | assumption | apply Fr.drewN | apply Fr.drew | apply Fr.alloc | refine Fr.setCell ?_ (Or.inr (by simp; try omega)) _))
          refine Hf.out.trans (h1) fun x hx => ?_
          right; have := HF.out x hx; omega
        have Hb2 := Lib.hid hb2
        have Hlk := Lib.hid hlk
        have Hf2 := Lib.hid hf2
        have HF2 := Lib.hid hF2
        have Hfr2 := Lib.hid hfr2
        clear hb2 hlk hf2 hF2 hfr2
        have hl5 : ns.length ≤ 100000 := Hl.out
        have hk5 : k < 100000 := by omega
        have Hk5 := Lib.hid hk5
        clear hl5 hk5
        by_cases hok : Fits s (ns.take k) x ∧ x ∉ ns.take k
        · have hj := join_ok hok.1 hok.2 (by rw [Hlk.out]; exact Hk5.out)
          rw [Hlk.out] at hj
          rw [hj] at hS2 ⊢
          have Hok := Lib.hid hok
          clear hok hj
          go_wp2
          go_roundw
          case rel =>
            have hx := Hx.out
            have ht : ns.take (k + 1) = ns.take k ++ [x] := by rw [take_snoc hlt, hx]
            refine ⟨k + 1, F2, by go_num, by omega, ?_, by rw [ht]; exact hS2, Hfr2.out, fun y hy => ?_, Hb2.out⟩
            · rw [ht]; exact HG.out.snoc Hok.out.1 Hok.out.2 (by rw [Hlk.out]; exact Hk5.out)
            · rcases HF2.out y hy with h | h
              · exact HF.out y h
              · simp at h; omega
          case measure => simp [intOf]; omega
        · have hjb := join_bad hok (by rw [Hlk.out]; exact Hk5.out)
          rw [Hlk.out] at hjb
          have hng : ¬ GoodQ s ns := fun h => hok (by rw [Hx.out]; exact goodQ_step h hlt)
          have Hng := Lib.hid hng
          clear hok hng hS2
          generalize (join s (ns.take k) x).1.1 = r at *
          generalize (join s (ns.take k) x).1.2 = q at *
          by_cases hq : q = 0
          · subst hq
            have hr : r ≠ s + k := by rcases hjb with h | h <;> omega
            have hrb : (r != s + ↑k) = true := by simpa using hr
            clear hjb hr
            go_wp2
            go_ret2
            exact ⟨fun h => absurd h Hng.out, fun _ => ⟨rfl, Hfr2.out⟩⟩
          · have hqb : (q != 0) = true := by simpa using hq
            clear hjb hq
            go_wp2
            go_ret2
            exact ⟨fun h => absurd h Hng.out, fun _ => ⟨rfl, Hfr2.out⟩⟩
      · obtain rfl : k = ns.length := by omega
        go_wp2
        go_ret2
        have hg := HG.out
        rw [List.take_length] at hg hS'
        exact ⟨fun _ => ⟨b, F', rfl, hS', Hf.out, fun x hx => by have := HF.out x hx; omega⟩, fun h => absurd hg h⟩
end Go.Proofs.Ytgeomalefpjfdaa
