/- Own texts of this claim, part 23: no condition. -/
import Derived.IntWalk
import Derived.Deep.RegionHeld3
import Derived.Deep.DeepCutAuto
import Derived.Test.YtdanghnadbkhfaaZC4
import Derived.Test.YtdanghnadbkhfaaZC2
import Derived.Test.YtdanghnadbkhfaaZC5
import Derived.Test.YtdanghnadbkhfaaZC17
import Derived.Test.YtdanghnadbkhfaaZC21
import Derived.Test.YtdanghnadbkhfaaZC14
import Derived.Test.YtdanghnadbkhfaaZC11
set_option linter.unusedVariables false
set_option linter.unusedSimpArgs false
section
/- Load, Right of package quad. -/
namespace Go.Proofs.Ytdanghnadbkhfaa
set_option linter.unusedVariables false
set_option linter.unusedSimpArgs false
open Go Go.RowKit Go.Proofs.Rg Go.Proofs.Mp Go.Proofs.Hp Go.Proofs.Qs
instance (s : Int) (ns : List K4) : Decidable (GoodQ s ns) := by
  have : GoodQ s ns ↔ 2 ≤ s ∧ s ≤ 8 ∧ ns.length ≤ 100000 ∧ ns.Nodup ∧ ∀ i : Fin ns.length, Fits s (ns.take i) ns[i] := by
    unfold GoodQ
    constructor
    · rintro ⟨h1, h2, h3, h4, h5⟩
      exact ⟨h1, h2, h3, h4, fun i => h5 i _ (by simp)⟩
    · rintro ⟨h1, h2, h3, h4, h5⟩
      refine ⟨h1, h2, h3, h4, fun i k hi => ?_⟩
      obtain ⟨h, rfl⟩ := List.getElem?_eq_some_iff.1 hi
      exact h5 ⟨i, h⟩
  exact decidable_of_iff _ this.symm
theorem goodQ_step {s : Int} {ns : List K4} (h : GoodQ s ns) {i : Nat} (hi : i < ns.length) : Fits s (ns.take i) ns[i] ∧ ns[i] ∉ ns.take i := by
  obtain ⟨h1, h2, h3, h4, h5⟩ := h
  refine ⟨h5 i _ (List.getElem?_eq_getElem hi), fun hm => ?_⟩
  obtain ⟨j, hj, e⟩ := List.getElem_of_mem hm
  rw [List.length_take] at hj
  rw [List.getElem_take] at e
  exact (List.pairwise_iff_getElem.1 h4) j i (by omega) hi (by omega) e
theorem take_snoc {ns : List K4} {i : Nat} (hi : i < ns.length) : ns.take (i + 1) = ns.take i ++ [ns[i]] := by
  rw [List.take_add_one, List.getElem?_eq_getElem hi]; rfl
theorem join_ok {s : Int} {ns : List K4} {k : K4} (h : Fits s ns k) (hn : k ∉ ns) (hl : ns.length < 100000) : join s ns k = ((s + ns.length, 0), ns ++ [k]) := by
  unfold join
  have hf := h
  unfold Fits at hf
  rw [if_neg (by omega), if_neg (by simpa using h), joinIn_new (by simpa using hn) hl]
theorem join_bad {s : Int} {ns : List K4} {k : K4} (h : ¬ (Fits s ns k ∧ k ∉ ns)) (_ : ns.length < 100000) : (join s ns k).1.2 ≠ 0 ∨ (join s ns k).1.1 ≠ s + ns.length := by
  unfold join
  split
  · left; simp
  · split
    · left; simp
    · rename_i hf
      have hf := Decidable.not_not.1 hf
      have hk : k ∈ ns := by
        rcases Decidable.em (k ∈ ns) with h' | h'
        · exact h'
        · exact absurd ⟨hf, h'⟩ h
      obtain ⟨i, hi⟩ : ∃ i, ns.idxOf? k = some i := by
        cases hx : ns.idxOf? k with
        | none => rw [List.idxOf?_eq_none_iff] at hx; exact absurd hk hx
        | some i => exact ⟨i, rfl⟩
      rw [joinIn_hit hi]
      right
      rw [List.idxOf?_eq_some_iff] at hi
      obtain ⟨h1, _⟩ := hi
      simp; omega
/-- what Load leaves -/
def LoadPost (w : World) (s : Int) (ns : List K4) (e : Ending) (w' : World) : Prop :=
  (GoodQ s ns → ∃ b F, e = .returned (.tuple #[.pointer (some ⟨b, 0, none⟩), .int .i64 0]) ∧ StoreAt w' b s ns F ∧ Fr [] w w' ∧ ∀ x ∈ F, w.heap.size ≤ x) ∧
  (¬ GoodQ s ns → e = .returned (.tuple #[.pointer none, .int .i64 2]) ∧ Fr [] w w')
set_option maxHeartbeats 4000000 in
theorem Load_calls {w : World} {s : Int} {ns : List K4} {v : Value} (hl : ns.length ≤ 100000) (hv : Reads w v ns.length 4 (flat ns)) :
    Calls Try.prog 49 #[.agg #[.int .i64 s, v]] w (LoadPost w s ns) := by
  have hvk := hv
  obtain ⟨_, a, c, rfl, hav⟩ := hv
  by_cases hbad : s < 2 ∨ 8 < s
  · have hng : ¬ GoodQ s ns := fun h => by have := h.1; have := h.2.1; omega
    have Hl := Lib.hid hl
    clear hl hav hvk
    go_enter Try.func49, Try.ntmps49
    go_wp2_with fail
    refine (New_bad s _ hbad).mono ?_
    rintro e w' ⟨rfl, rfl⟩
    go_wp2
    go_ret2
    exact ⟨fun h => absurd h hng, fun _ => ⟨rfl, by (repeat (first | exact Fr.refl _ _ | assumption | apply Fr.drewN | apply Fr.drew | apply Fr.alloc | refine Fr.setCell ?_ (Or.inr (by simp; try omega)) _))⟩⟩
  · have hl2 : ns.length ≤ 1048576 := by omega
    have Hl := Lib.hid hl
    have Hav := Lib.hid hav
    have Hvk := Lib.hid hvk
    have hs1 : 2 ≤ s := by omega
    have hs2 : s ≤ 8 := by omega
    clear hav hvk hbad hl
    have hd : decide ((100000 : Int) < ↑ns.length) = false := by have := Hl.out; simp; omega
    go_enter Try.func49, Try.ntmps49
    go_wp2_with fail
    refine (New_ok s _ hs1 hs2).mono ?_
    rintro e w1 ⟨b, F0, rfl, hS0, hf0, hF0⟩
    have hbx : w1.heap[w.heap.size]? = some (.cells #[.int .i64 s, .slice a ns.length c] 56 (0, 0)) := (hf0.block _ (by simp) (by simp)).trans (by (repeat (first | rw [if_pos (by omega)] | rw [if_neg (by omega)] | rw [hp_drew] | rw [hp_drewN] | rw [hp_alloc_size] | rw [hp_setCell_size] | rw [hp_alloc] | rw [hp_setCell] | rw [Option.map_some] | rw [upd_cells] | rw [List.set_cons_zero] | rw [List.set_cons_succ] | rfl)))
    have c0 := heap_eq_cell hbx 0
    have c1 := heap_eq_cell hbx 1
    have hfw : Fr [] w w1 := ((Fr.refl _ _).alloc _).trans0 hf0
    have Hbx := Lib.hid hbx
    have Hfw := Lib.hid hfw
    have HF0 := Lib.hid hF0
    clear hbx hf0 hfw hF0
    go_wp2
    go_loopw [27] (fun x wr => ∃ (k : Nat) (F' : List Nat), x = .int .i64 k ∧ k ≤ ns.length ∧ GoodQ s (ns.take k) ∧ StoreAt wr b s (ns.take k) F' ∧ Fr [] w wr ∧ (∀ x ∈ F', w.heap.size + 1 ≤ x) ∧ wr.heap[w.heap.size]? = some (.cells #[.int .i64 s, .slice a ns.length c] 56 (0, 0))) (fun x _ => ns.length - (intOf x).toNat)
    case atStart => exact ⟨0, F0, rfl, by omega, GoodQ.nil hs1 hs2, hS0, Hfw.out, fun x hx => by have := HF0.out x hx; simp at this; omega, Hbx.out⟩
    case round =>
      obtain ⟨k, F', rfl, hk, hg, hS', hf', hF', hb'⟩ := hrel
      have c0 := heap_eq_cell hb' 0
      have c1 := heap_eq_cell hb' 1
      have hwlt : w.heap.size < wr.heap.size := lt_of_block hb'
      have Hf := Lib.hid hf'
      have HF := Lib.hid hF'
      have HB := Lib.hid hb'
      have HG := Lib.hid hg
      clear hf' hF' hb' hg
      by_cases hlt : k < ns.length
      · obtain ⟨g, off, rfl, hg, hc⟩ := Hav.out (by omega)
        obtain ⟨f0, f1, f2, f3⟩ := flat_get (List.getElem?_eq_getElem hlt)
        rw [Nat.mul_comm] at f0 f1 f2 f3
        obtain ⟨x, hx⟩ : ∃ x, x = ns[k] := ⟨_, rfl⟩
        rw [← hx] at f0 f1 f2 f3
        have hgw : ∀ j, wr.cell? ⟨g, off + j, none⟩ = w.cell? ⟨g, off + j, none⟩ := fun j => Hf.out.cell (p := ⟨g, off + j, none⟩) hg (by simp)
        have e0 := (hgw _).trans (hc _ _ f0)
        have e1 := (hgw _).trans (hc _ _ f1)
        have e2 := (hgw _).trans (hc _ _ f2)
        have e3 := (hgw _).trans (hc _ _ f3)
        simp only [← Nat.add_assoc] at e1 e2 e3
        have hgr : g < wr.heap.size := by omega
        have Hx := Lib.hid hx
        clear hx hc f0 f1 f2 f3 hgw
        have hJ : ∀ w1, Fr [] wr w1 → Calls Try.prog 46 #[.pointer (some ⟨b, 0, none⟩), .int .i64 x.a, .int .i64 x.b, .int .i64 x.c, .int .i64 x.d] w1 (JoinPost w1 b s (ns.take k) F' x) := fun w1 hf => Join_calls (hS'.fr hf (by simp)) x
        go_wp2_with fail
        refine (hJ _ (by (repeat (first | exact Fr.refl _ _ | assumption | apply Fr.drewN | apply Fr.drew | apply Fr.alloc | refine Fr.setCell ?_ (Or.inr (by simp; try omega)) _)))).mono ?_
        clear hJ
        rintro e w2 ⟨rfl, F2, hS2, hf2, hF2⟩
        have hb2 : w2.heap[w.heap.size]? = some (.cells #[.int .i64 s, .slice (some ⟨g, off, none⟩) ns.length c] 56 (0, 0)) := by
          refine (hf2.block _ (by simp; omega) fun h => ?_).trans ?_
          · have := HF.out _ h; omega
          · rw [← HB.out]; (repeat (first | rw [if_pos (by omega)] | rw [if_neg (by omega)] | rw [hp_drew] | rw [hp_drewN] | rw [hp_alloc_size] | rw [hp_setCell_size] | rw [hp_alloc] | rw [hp_setCell] | rw [Option.map_some] | rw [upd_cells] | rw [List.set_cons_zero] | rw [List.set_cons_succ] | rfl))
        have c0 := heap_eq_cell hb2 0
        have c1 := heap_eq_cell hb2 1
        have hlk : (ns.take k).length = k := by rw [List.length_take]; omega
        have hfr2 : Fr [] w w2 := by
          have h1 : Fr F' wr w2 := by
            refine Fr.trans ?_ hf2 fun x hx => .inl hx
            (repeat (first | exact Fr.refl _ _ | assumption | apply Fr.drewN | apply Fr.drew | apply Fr.alloc | refine Fr.setCell ?_ (Or.inr (by simp; try omega)) _))
          refine Hf.out.trans (h1) fun x hx => ?_
          right; have := HF.out x hx; omega
        have Hb2 := Lib.hid hb2
        have Hlk := Lib.hid hlk
        have Hf2 := Lib.hid hf2
        have HF2 := Lib.hid hF2
        have Hfr2 := Lib.hid hfr2
        clear hb2 hlk hf2 hF2 hfr2
        have hl5 : ns.length ≤ 100000 := Hl.out
        have hk5 : k < 100000 := by omega
        have Hk5 := Lib.hid hk5
        clear hl5 hk5
        by_cases hok : Fits s (ns.take k) x ∧ x ∉ ns.take k
        · have hj := join_ok hok.1 hok.2 (by rw [Hlk.out]; exact Hk5.out)
          rw [Hlk.out] at hj
          rw [hj] at hS2 ⊢
          have Hok := Lib.hid hok
          clear hok hj
          go_wp2
          go_roundw
          case rel =>
            have hx := Hx.out
            have ht : ns.take (k + 1) = ns.take k ++ [x] := by rw [take_snoc hlt, hx]
            refine ⟨k + 1, F2, by go_num, by omega, ?_, by rw [ht]; exact hS2, Hfr2.out, fun y hy => ?_, Hb2.out⟩
            · rw [ht]; exact HG.out.snoc Hok.out.1 Hok.out.2 (by rw [Hlk.out]; exact Hk5.out)
            · rcases HF2.out y hy with h | h
              · exact HF.out y h
              · simp at h; omega
          case measure => simp [intOf]; omega
        · have hjb := join_bad hok (by rw [Hlk.out]; exact Hk5.out)
          rw [Hlk.out] at hjb
          have hng : ¬ GoodQ s ns := fun h => hok (by rw [Hx.out]; exact goodQ_step h hlt)
          have Hng := Lib.hid hng
          clear hok hng hS2
          generalize (join s (ns.take k) x).1.1 = r at *
          generalize (join s (ns.take k) x).1.2 = q at *
          by_cases hq : q = 0
          · subst hq
            have hr : r ≠ s + k := by rcases hjb with h | h <;> omega
            have hrb : (r != s + ↑k) = true := by simpa using hr
            clear hjb hr
            go_wp2
            go_ret2
            exact ⟨fun h => absurd h Hng.out, fun _ => ⟨rfl, Hfr2.out⟩⟩
          · have hqb : (q != 0) = true := by simpa using hq
            clear hjb hq
            go_wp2
            go_ret2
            exact ⟨fun h => absurd h Hng.out, fun _ => ⟨rfl, Hfr2.out⟩⟩
      · obtain rfl : k = ns.length := by omega
        go_wp2
        go_ret2
        have hg := HG.out
        rw [List.take_length] at hg hS'
        exact ⟨fun _ => ⟨b, F', rfl, hS', Hf.out, fun x hx => by have := HF.out x hx; omega⟩, fun h => absurd hg h⟩
end Go.Proofs.Ytdanghnadbkhfaa
end

section
/- The reference of layer 25: Right. -/
namespace Go.Proofs.Ytdanghnadbkhfaa
set_option linter.unusedVariables false
set_option linter.unusedSimpArgs false
open Go Go.RowKit Go.Proofs.Rg Go.Proofs.Mp Go.Proofs.Hp Go.Proofs.Qs
theorem findR_cases (ns : List K4) (k : K4) : (k ∈ ns ∧ 0 ≤ findR ns k ∧ findR ns k < ns.length) ∨ (k ∉ ns ∧ findR ns k = -1) := by
  unfold findR
  cases h : ns.idxOf? k with
  | some i =>
    left
    rw [List.idxOf?_eq_some_iff] at h
    obtain ⟨h1, h2, _⟩ := h
    have h3 : ns[i] = k := by simpa using h2
    refine ⟨by rw [← h3]; exact List.getElem_mem _, ?_, ?_⟩ <;> simp <;> omega
  | none => right; exact ⟨by simpa using h, rfl⟩
set_option maxHeartbeats 2000000 in
set_option maxRecDepth 100000 in
theorem R25Right_calls {w : World} {s : Int} {ns : List K4} {v : Value} (hl : ns.length ≤ 90000) (hv : Reads w v ns.length 4 (flat ns)) :
    Calls Try.prog 48 #[.agg #[.int .i64 s, v]] w fun e w' => e = .returned (.bool (decide (GoodQ s ns))) ∧ Fr [] w w' := by
  have hvk := hv
  obtain ⟨_, a, c, rfl, hav⟩ := hv
  have Hav := Lib.hid hav
  have Hvk := Lib.hid hvk
  have Hl := Lib.hid hl
  clear hav hvk hl
  obtain ⟨i0, hi0, hi1, hi2, hi3⟩ := info_parts info_quad
  by_cases hs1 : s < 2
  · have hng : ¬ GoodQ s ns := fun h => by have := h.1; omega
    have Hng := Lib.hid hng
    clear hng
    go_enter Try.func48, Try.ntmps48
    go_wp2
    go_ret
    exact ⟨by rw [decide_eq_false Hng.out]; rfl, by (repeat (first | exact Fr.refl _ _ | assumption | apply Fr.drewN | apply Fr.drew | apply Fr.alloc | refine Fr.setCell ?_ (Or.inr (by simp; try omega)) _))⟩
  by_cases hs2 : 8 < s
  · have hng : ¬ GoodQ s ns := fun h => by have := h.2.1; omega
    have Hng := Lib.hid hng
    clear hng
    go_enter Try.func48, Try.ntmps48
    go_wp2
    go_ret
    exact ⟨by rw [decide_eq_false Hng.out]; rfl, by (repeat (first | exact Fr.refl _ _ | assumption | apply Fr.drewN | apply Fr.drew | apply Fr.alloc | refine Fr.setCell ?_ (Or.inr (by simp; try omega)) _))⟩
  have hd : decide ((100000 : Int) < ↑ns.length) = false := by have := Hl.out; simp; omega
  go_enter Try.func48, Try.ntmps48
  go_wp2
  clear hd
  go_loopw [4] (fun x wr => ∃ (k : Nat) (nv : Value), x = .int .i64 k ∧ k ≤ ns.length ∧ Fr [] w wr ∧ w.heap.size + 2 ≤ wr.heap.size ∧ wr.heap[w.heap.size]? = some (.cells #[.int .i64 s, .slice a ns.length c] 56 (0, 0)) ∧
      wr.heap[w.heap.size + 1]? = some (.cells #[.int .i64 s, nv] 56 (0, 0)) ∧
      wr.ownsRow (w.heap.size + 2) 136 4 nv k (flat (ns.take k)) ∧ GoodQ s (ns.take k)) (fun x _ => ns.length - (intOf x).toNat)
  case atStart =>
    refine ⟨0, .slice none 0 0, rfl, by omega, ?_, ?_, ?_, ?_, World.ownsRow_nil _ _ _ _, GoodQ.nil (by omega) (by omega)⟩
    · (repeat (first | exact Fr.refl _ _ | assumption | apply Fr.drewN | apply Fr.drew | apply Fr.alloc | refine Fr.setCell ?_ (Or.inr (by simp; try omega)) _))
    · simp only [hp_alloc_size, hp_setCell_size]; omega
    · (repeat (first | rw [if_pos (by omega)] | rw [if_neg (by omega)] | rw [hp_drew] | rw [hp_drewN] | rw [hp_alloc_size] | rw [hp_setCell_size] | rw [hp_alloc] | rw [hp_setCell] | rw [Option.map_some] | rw [upd_cells] | rw [List.set_cons_zero] | rw [List.set_cons_succ] | rfl))
    · (repeat (first | rw [if_pos (by omega)] | rw [if_neg (by omega)] | rw [hp_drew] | rw [hp_drewN] | rw [hp_alloc_size] | rw [hp_setCell_size] | rw [hp_alloc] | rw [hp_setCell] | rw [Option.map_some] | rw [upd_cells] | rw [List.set_cons_zero] | rw [List.set_cons_succ] | rfl))
  case round =>
    obtain ⟨k, nv, rfl, hk, hf, hsz, hb0, hb1, hown, hgood⟩ := hrel
    have b0 := heap_eq_cell hb0 0
    have b1 := heap_eq_cell hb0 1
    have o0 := heap_eq_cell hb1 0
    have o1 := heap_eq_cell hb1 1
    have hz1 : w.heap.size + 1 < wr.heap.size := by omega
    have Hsz := Lib.hid hsz
    have hnb : ∀ x, nv.ownBlock = some x → w.heap.size + 2 ≤ x := fun x hx => owns_ge hown hx
    have Hnb := Lib.hid hnb
    have Hf := Lib.hid hf
    have H0 := Lib.hid hb0
    have H1 := Lib.hid hb1
    have Hown := Lib.hid hown
    have Hgood := Lib.hid hgood
    obtain ⟨na, nc, rfl, _, _⟩ := owns_form hown
    clear hf hb0 hb1 hown hsz hnb hgood
    by_cases hlt : k < ns.length
    · obtain ⟨g, off, rfl, hg, hc⟩ := Hav.out (by omega)
      obtain ⟨f0, f1, f2, f3⟩ := flat_get (List.getElem?_eq_getElem hlt)
      rw [Nat.mul_comm] at f0 f1 f2 f3
      obtain ⟨x, hx⟩ : ∃ x, x = ns[k] := ⟨_, rfl⟩
      rw [← hx] at f0 f1 f2 f3
      have hgw : ∀ j, wr.cell? ⟨g, off + j, none⟩ = w.cell? ⟨g, off + j, none⟩ := fun j => Hf.out.cell (p := ⟨g, off + j, none⟩) hg (by simp)
      have e0 := (hgw _).trans (hc _ _ f0)
      have e1 := (hgw _).trans (hc _ _ f1)
      have e2 := (hgw _).trans (hc _ _ f2)
      have e3 := (hgw _).trans (hc _ _ f3)
      simp only [← Nat.add_assoc] at e1 e2 e3
      have hgr : g < wr.heap.size := by have := Hf.out.size; omega
      have E0 := hc _ _ f0
      have E1 := hc _ _ f1
      have E2 := hc _ _ f2
      have E3 := hc _ _ f3
      simp only [← Nat.add_assoc] at E1 E2 E3
      have HE := Lib.hid (And.intro E0 (And.intro E1 (And.intro E2 E3)))
      clear E0 E1 E2 E3
      have Hx := Lib.hid hx
      clear hx hc f0 f1 f2 f3 hgw
      have hlk : (ns.take k).length = k := by rw [List.length_take]; omega
      have Hlk := Lib.hid hlk
      clear hlk
      have hR : ∀ w1, Fr [] wr w1 → Reads w1 (.slice na k nc) (ns.take k).length 4 (flat (ns.take k)) := fun w1 hf1 => by rw [Hlk.out]; exact (Reads.of_owns Hown.out).fr hf1
      have HR := Lib.hid hR
      clear hR
      obtain ⟨la, hla⟩ : ∃ la, la = lvl s (levs s (ns.take k)) x.a := ⟨_, rfl⟩
      obtain ⟨lb, hlb⟩ : ∃ lb, lb = lvl s (levs s (ns.take k)) x.b := ⟨_, rfl⟩
      obtain ⟨lc, hlc⟩ : ∃ lc, lc = lvl s (levs s (ns.take k)) x.c := ⟨_, rfl⟩
      obtain ⟨ld, hld⟩ : ∃ ld, ld = lvl s (levs s (ns.take k)) x.d := ⟨_, rfl⟩
      obtain ⟨fi, hfi⟩ : ∃ fi, fi = findR (ns.take k) x := ⟨_, rfl⟩
      have Hla := Lib.hid hla
      have Hlb := Lib.hid hlb
      have Hlc := Lib.hid hlc
      have Hld := Lib.hid hld
      have Hfi := Lib.hid hfi
      clear hla hlb hlc hld hfi
      have hsp : GoodQ s ns → 0 ≤ la ∧ la < 256 ∧ lb = la ∧ lc = la ∧ ld = la ∧ fi < 0 := fun h => by
        obtain ⟨⟨h0, h1, h2, h3, h4⟩, hn⟩ := goodQ_step h hlt
        have hx := Hx.out
        subst hx
        rw [Hla.out, Hlb.out, Hlc.out, Hld.out, Hfi.out]
        refine ⟨h0, h1, h2, h3, h4, ?_⟩
        rcases findR_cases (ns.take k) ns[k] with h5 | h5
        · exact absurd h5.1 hn
        · rw [h5.2]; omega
      have Hsp := Lib.hid hsp
      clear hsp
      go_wp2_with fail
      have hk3 : (wr.alloc (.cells #[.int .i64 x.a, .int .i64 x.b, .int .i64 x.c, .int .i64 x.d] 97)).heap[wr.heap.size]? = some (.cells #[.int .i64 x.a, .int .i64 x.b, .int .i64 x.c, .int .i64 x.d] 97 (0, 0)) := by (repeat (first | rw [if_pos (by omega)] | rw [if_neg (by omega)] | rw [hp_drew] | rw [hp_drewN] | rw [hp_alloc_size] | rw [hp_setCell_size] | rw [hp_alloc] | rw [hp_setCell] | rw [Option.map_some] | rw [upd_cells] | rw [List.set_cons_zero] | rw [List.set_cons_succ] | rfl))
      have hf3 : Fr [] wr (wr.alloc (.cells #[.int .i64 x.a, .int .i64 x.b, .int .i64 x.c, .int .i64 x.d] 97)) := by (repeat (first | exact Fr.refl _ _ | assumption | apply Fr.drewN | apply Fr.drew | apply Fr.alloc | refine Fr.setCell ?_ (Or.inr (by simp; try omega)) _))
      generalize wr.alloc (.cells #[.int .i64 x.a, .int .i64 x.b, .int .i64 x.c, .int .i64 x.d] 97) = w3 at *
      have hcells : ∀ w', Fr [] w3 w' → w'.cell? ⟨w.heap.size + 1, 0, none⟩ = some (.int .i64 s) ∧ w'.cell? ⟨w.heap.size + 1, 1, none⟩ = some (.slice na k nc) ∧ w'.cell? ⟨wr.heap.size, 0, none⟩ = some (.int .i64 x.a) ∧ w'.cell? ⟨wr.heap.size, 1, none⟩ = some (.int .i64 x.b) ∧
          w'.cell? ⟨wr.heap.size, 2, none⟩ = some (.int .i64 x.c) ∧ w'.cell? ⟨wr.heap.size, 3, none⟩ = some (.int .i64 x.d) := fun w' hf' => by
        have hp := ((hf3.trans0 hf').block _ (lt_of_block H1.out) (by simp)).trans H1.out
        have hq := (hf'.block _ (lt_of_block hk3) (by simp)).trans hk3
        exact ⟨heap_eq_cell hp 0, heap_eq_cell hp 1, heap_eq_cell hq 0, heap_eq_cell hq 1, heap_eq_cell hq 2, heap_eq_cell hq 3⟩
      have hLev : ∀ (w1 : World) (id l : Int), l = lvl s (levs s (ns.take k)) id → Fr [] w3 w1 → Calls Try.prog 73 #[.agg #[.int .i64 s, .slice na k nc], .int .i64 id] w1 fun e w' => e = .returned (.int .i64 l) ∧ Fr [] w3 w' ∧ w'.cell? ⟨w.heap.size + 1, 0, none⟩ = some (.int .i64 s) ∧ w'.cell? ⟨w.heap.size + 1, 1, none⟩ = some (.slice na k nc) ∧ w'.cell? ⟨wr.heap.size, 0, none⟩ = some (.int .i64 x.a) ∧ w'.cell? ⟨wr.heap.size, 1, none⟩ = some (.int .i64 x.b) ∧
          w'.cell? ⟨wr.heap.size, 2, none⟩ = some (.int .i64 x.c) ∧ w'.cell? ⟨wr.heap.size, 3, none⟩ = some (.int .i64 x.d) := fun w1 id l hl1 hf1 => by
        refine (level_ref Hgood.out (HR.out w1 (hf3.trans0 hf1)) id).mono ?_
        rintro e w' ⟨rfl, o, rfl⟩
        exact ⟨by rw [hl1], hf1.alloc o, hcells _ (hf1.alloc o)⟩
      have hFind : ∀ (w1 : World), Fr [] w3 w1 → Calls Try.prog 74 #[.agg #[.int .i64 s, .slice na k nc], .agg #[.int .i64 x.a, .int .i64 x.b, .int .i64 x.c, .int .i64 x.d]] w1 fun e w' => e = .returned (.int .i64 fi) ∧ Fr [] w3 w' := fun w1 hf1 => by
        refine (find_ref (s := s) (by rw [Hlk.out]; have := Hl.out; omega) (HR.out w1 (hf3.trans0 hf1)) x).mono ?_
        rintro e w' ⟨rfl, o1, o2, n, rfl⟩
        exact ⟨by rw [Hfi.out], ((hf1.alloc o1).alloc o2).drewN n⟩
      have hcs := hcells w3 (Fr.refl _ _)
      have HLev := Lib.hid hLev
      have HFind := Lib.hid hFind
      have Hf3 := Lib.hid hf3
      have Hk3 := Lib.hid hk3
      clear hLev hFind hcells hf3 hk3 b0 b1 o0 o1 e0 e1 e2 e3
      obtain ⟨c0, c1, k0, k1, k2, k3⟩ := hcs
      clear c0 c1 k0 k1 k2 k3
      refine (HLev.out _ _ _ Hla.out (Fr.refl _ _)).mono ?_
      rintro e w4 ⟨rfl, hf, c0, c1, k0, k1, k2, k3⟩
      have Hf_w4 := Lib.hid hf
      clear hf
      go_wp2_with fail
      any_goals (go_ret; refine ⟨?_, (Hf.out.trans0 Hf3.out).trans0 Hf_w4.out⟩; rw [decide_eq_false (p := GoodQ s ns) fun h => by have := Hsp.out h; omega]; rfl)
      clear c0 c1 k0 k1 k2 k3
      refine (HLev.out _ _ _ Hlb.out Hf_w4.out).mono ?_
      rintro e w5 ⟨rfl, hf, c0, c1, k0, k1, k2, k3⟩
      have Hf_w5 := Lib.hid hf
      clear hf
      go_wp2_with fail
      any_goals (go_ret; refine ⟨?_, (Hf.out.trans0 Hf3.out).trans0 Hf_w5.out⟩; rw [decide_eq_false (p := GoodQ s ns) fun h => by have := Hsp.out h; omega]; rfl)
      clear c0 c1 k0 k1 k2 k3
      refine (HLev.out _ _ _ Hlc.out Hf_w5.out).mono ?_
      rintro e w6 ⟨rfl, hf, c0, c1, k0, k1, k2, k3⟩
      have Hf_w6 := Lib.hid hf
      clear hf
      go_wp2_with fail
      any_goals (go_ret; refine ⟨?_, (Hf.out.trans0 Hf3.out).trans0 Hf_w6.out⟩; rw [decide_eq_false (p := GoodQ s ns) fun h => by have := Hsp.out h; omega]; rfl)
      clear c0 c1 k0 k1 k2 k3
      refine (HLev.out _ _ _ Hld.out Hf_w6.out).mono ?_
      rintro e w7 ⟨rfl, hf, c0, c1, k0, k1, k2, k3⟩
      have Hf_w7 := Lib.hid hf
      clear hf
      go_wp2_with fail
      any_goals (go_ret; refine ⟨?_, (Hf.out.trans0 Hf3.out).trans0 Hf_w7.out⟩; rw [decide_eq_false (p := GoodQ s ns) fun h => by have := Hsp.out h; omega]; rfl)
      clear c0 c1 k0 k1 k2 k3
      refine (HFind.out _ Hf_w7.out).mono ?_
      rintro e w8 ⟨rfl, hf⟩
      have Hf8 := Lib.hid hf
      clear hf
      have hf8 : Fr [] wr w8 := Hf3.out.trans0 Hf8.out
      have hp := (hf8.block _ (lt_of_block H1.out) (by simp)).trans H1.out
      have hq := (hf8.block _ (lt_of_block H0.out) (by simp)).trans H0.out
      have o0 := heap_eq_cell hp 0
      have o1 := heap_eq_cell hp 1
      have p1 := heap_eq_frozen hp 1
      have b1 := heap_eq_cell hq 1
      obtain ⟨E0, E1, E2, E3⟩ := HE.out
      have hgw : ∀ j, w8.cell? ⟨g, j, none⟩ = w.cell? ⟨g, j, none⟩ := fun j => (Hf.out.trans0 hf8).cell (p := ⟨g, j, none⟩) hg (by simp)
      have e0 := (hgw _).trans E0
      have e1 := (hgw _).trans E1
      have e2 := (hgw _).trans E2
      have e3 := (hgw _).trans E3
      have hown8 := owns_of_block Hown.out fun y hy => hf8.block y (owns_lt Hown.out hy) (by simp)
      have hsz8 := hf8.size
      have hz1 : w.heap.size + 1 < w8.heap.size := by have := Hsz.out; omega
      have hg8 : g < w8.heap.size := by omega
      have Hown8 := Lib.hid hown8
      have HP8 := Lib.hid hp
      have HQ8 := Lib.hid hq
      have Hf8w := Lib.hid (Hf.out.trans0 hf8)
      have Hsz8 := Lib.hid hsz8
      clear hf8 hp hq E0 E1 E2 E3 hgw hown8 hsz8 HLev HFind
      go_wp2_with fail
      any_goals (go_ret; refine ⟨?_, Hf8w.out⟩; rw [decide_eq_false (p := GoodQ s ns) fun h => by have := Hsp.out h; omega]; rfl)
      have hadd : Fits s (ns.take k) x ∧ x ∉ ns.take k := by
        have ha := Hla.out
        have hb := Hlb.out
        have hc := Hlc.out
        have hd := Hld.out
        refine ⟨⟨by omega, by omega, by omega, by omega, by omega⟩, fun hm => ?_⟩
        rcases findR_cases (ns.take k) x with h | h
        · have := Hfi.out; omega
        · exact h.1 hm
      have hg1 : GoodQ s (ns.take (k + 1)) := by
        rw [take_snoc hlt, ← Hx.out]
        exact Hgood.out.snoc hadd.1 hadd.2 (by rw [Hlk.out]; have := Hl.out; omega)
      have Hg1 := Lib.hid hg1
      have hk9 : k < 90000 := by have := Hl.out; omega
      clear hadd hg1 Hsp
      (refine wp_region_text (by kernel_rfl) (by kernel_rfl) ?_)
      go_wp2_with (at_builtin; refine append_quad (k := x) (n := k) (base := w.heap.size + 2) (xs := flat (ns.take k)) rfl rfl rfl ?e1 rfl ?e2 ?e3 ?e4 ?_)
      case e1 => exact owns_of_block Hown8.out fun y hy => by rw [hp_drew]; exact heap_alloc_else _ _ _ (owns_lt Hown8.out hy)
      case e2 => (repeat (first | rw [if_pos (by omega)] | rw [if_neg (by omega)] | rw [hp_drew] | rw [hp_drewN] | rw [hp_alloc_size] | rw [hp_setCell_size] | rw [hp_alloc] | rw [hp_setCell] | rw [Option.map_some] | rw [upd_cells] | rw [List.set_cons_zero] | rw [List.set_cons_succ] | rfl))
      case e3 => have := Hl.out; omega
      case e4 => rw [hp_drew, hp_alloc_size]; omega
      intro g' cap w9 hown1 hW1 hF1 hloc1 hg1
      have old : ∀ y, y < w.heap.size + 2 → w9.heap[y]? = w8.heap[y]? := fun y hy => (hW1 y (by omega) (fun e => by have := Hnb.out y e; omega)).trans (by rw [hp_drew]; exact heap_alloc_else _ _ _ (by omega))
      have hb2 := (old (w.heap.size + 1) (by omega)).trans HP8.out
      have o0 := heap_eq_cell hb2 0
      have o1 := heap_eq_cell hb2 1
      have p1 := heap_eq_frozen hb2 1
      have Hown1 := Lib.hid hown1
      have Hold := Lib.hid old
      have HF1 := Lib.hid hF1
      have HB2 := Lib.hid hb2
      clear hown1 hW1 hF1 hloc1 old hb2
      have hs1 : w.heap.size + 1 < w9.heap.size := lt_of_block HB2.out
      go_wp2
      refine Strict.intro rfl ?_
      go_wp2
      go_roundw
      case rel =>
        have hG : w.heap.size + 2 ≤ g' := owns_ge Hown1.out rfl
        refine ⟨k + 1, .slice (some ⟨g', 0, none⟩) (k + 1) cap, by go_num, by omega, ?_, ?_, ?_, ?_, ?_, Hg1.out⟩
        · refine (((Hf8w.out.alloc _).drew).trans HF1.out fun y hy => ?_).setCell (Or.inr (by simp)) _
          have := Hnb.out y (by simpa using hy)
          right; omega
        · rw [hp_setCell_size]; omega
        · rw [hp_setCell, if_neg (by omega), Hold.out _ (by omega)]; exact HQ8.out
        · rw [hp_setCell, if_pos rfl, HB2.out]; rfl
        · have ht : flat (ns.take (k + 1)) = flat (ns.take k) ++ kcells x := by
            rw [List.take_add_one, List.getElem?_eq_getElem hlt, ← Hx.out]
            exact flat_snoc _ _
          rw [ht]
          refine owns_of_block Hown1.out fun y hy => ?_
          have : g' = y := by simpa [Value.ownBlock] using hy
          rw [hp_setCell, if_neg (by omega)]
      case measure => simp [intOf]; omega
    · obtain rfl : k = ns.length := by omega
      have hgood := Hgood.out
      rw [List.take_length] at hgood
      have Hgd := Lib.hid hgood
      clear hgood
      go_wp2
      go_ret
      exact ⟨by rw [decide_eq_true Hgd.out]; rfl, Hf.out⟩
end Go.Proofs.Ytdanghnadbkhfaa
end

section
/- The reference of layer 25: copied. -/
namespace Go.Proofs.Ytdanghnadbkhfaa
set_option linter.unusedVariables false
set_option linter.unusedSimpArgs false
open Go Go.RowKit Go.Proofs.Rg Go.Proofs.Mp Go.Proofs.Hp Go.Proofs.Qs
def CopyPost (w : World) (s : Int) (ns : List K4) (e : Ending) (w' : World) : Prop := ∃ v, e = .returned (.agg #[.int .i64 s, v]) ∧ w'.ownsRow w.heap.size 136 4 v ns.length (flat ns) ∧ Fr [] w w'
set_option maxHeartbeats 4000000 in
theorem copied_ref {w : World} {s : Int} {ns : List K4} {v : Value} (hl : ns.length ≤ 1048576) (hv : Reads w v ns.length 4 (flat ns)) :
    Calls Try.prog 75 #[.agg #[.int .i64 s, v]] w (CopyPost w s ns) := by
  have hvk := hv
  obtain ⟨_, a, c, rfl, hav⟩ := hv
  have Hav := Lib.hid hav
  have Hvk := Lib.hid hvk
  clear hav hvk
  obtain ⟨i0, hi0, hi1, hi2, hi3⟩ := info_parts info_quad
  go_enter Try.func75, Try.ntmps75
  go_wp2
  go_loopw [4] (fun x wr => ∃ (k : Nat) (nv : Value), x = .int .i64 k ∧ k ≤ ns.length ∧ Fr [] w wr ∧ w.heap.size + 3 ≤ wr.heap.size ∧ wr.heap[w.heap.size]? = some (.cells #[.int .i64 s, .slice a ns.length c] 56 (0, 0)) ∧
      wr.heap[w.heap.size + 1]? = some (.cells #[.int .i64 0, .slice none 0 0] 56 (0, 0)) ∧ wr.heap[w.heap.size + 2]? = some (.cells #[.int .i64 s, nv] 56 (0, 0)) ∧
      wr.ownsRow (w.heap.size + 3) 136 4 nv k (flat (ns.take k))) (fun x _ => ns.length - (intOf x).toNat)
  case atStart =>
    refine ⟨0, .slice none 0 0, rfl, by omega, ?_, ?_, ?_, ?_, ?_, World.ownsRow_nil _ _ _ _⟩
    · repeat (first | exact Fr.refl _ _ | apply Fr.drewN | apply Fr.drew | apply Fr.alloc | refine Fr.setCell ?_ (Or.inr (by simp)) _)
    · simp only [hp_alloc_size]; omega
    · (repeat (first | rw [if_pos (by omega)] | rw [if_neg (by omega)] | rw [hp_drew] | rw [hp_drewN] | rw [hp_alloc_size] | rw [hp_setCell_size] | rw [hp_alloc] | rw [hp_setCell] | rw [Option.map_some] | rw [upd_cells] | rw [List.set_cons_zero] | rw [List.set_cons_succ] | rfl))
    · (repeat (first | rw [if_pos (by omega)] | rw [if_neg (by omega)] | rw [hp_drew] | rw [hp_drewN] | rw [hp_alloc_size] | rw [hp_setCell_size] | rw [hp_alloc] | rw [hp_setCell] | rw [Option.map_some] | rw [upd_cells] | rw [List.set_cons_zero] | rw [List.set_cons_succ] | rfl))
    · (repeat (first | rw [if_pos (by omega)] | rw [if_neg (by omega)] | rw [hp_drew] | rw [hp_drewN] | rw [hp_alloc_size] | rw [hp_setCell_size] | rw [hp_alloc] | rw [hp_setCell] | rw [Option.map_some] | rw [upd_cells] | rw [List.set_cons_zero] | rw [List.set_cons_succ] | rfl))
  case round =>
    obtain ⟨k, nv, rfl, hk, hf, hsz, hb0, hb1, hb2, hown⟩ := hrel
    have b0 := heap_eq_cell hb0 0
    have b1 := heap_eq_cell hb0 1
    have r0 := heap_eq_cell hb1 0
    have r1 := heap_eq_cell hb1 1
    have q0 := heap_eq_frozen hb1 0
    have q1 := heap_eq_frozen hb1 1
    have o0 := heap_eq_cell hb2 0
    have o1 := heap_eq_cell hb2 1
    have p1 := heap_eq_frozen hb2 1
    have Hsz := Lib.hid hsz
    have hz0 : w.heap.size < wr.heap.size := by omega
    have hz1 : w.heap.size + 1 < wr.heap.size := by omega
    have hz2 : w.heap.size + 2 < wr.heap.size := by omega
    have hnb : ∀ x, nv.ownBlock = some x → w.heap.size + 3 ≤ x := fun x hx => owns_ge hown hx
    have Hnb := Lib.hid hnb
    have Hf := Lib.hid hf
    have H0 := Lib.hid hb0
    have H1 := Lib.hid hb1
    have H2 := Lib.hid hb2
    have Hown := Lib.hid hown
    obtain ⟨na, nc, rfl, _, _⟩ := owns_form hown
    clear hf hb0 hb1 hb2 hown hsz hnb
    by_cases hlt : k < ns.length
    · obtain ⟨g, off, rfl, hg, hc⟩ := Hav.out (by omega)
      obtain ⟨f0, f1, f2, f3⟩ := flat_get (List.getElem?_eq_getElem hlt)
      rw [Nat.mul_comm] at f0 f1 f2 f3
      obtain ⟨x, hx⟩ : ∃ x, x = ns[k] := ⟨_, rfl⟩
      rw [← hx] at f0 f1 f2 f3
      have hgw : ∀ j, wr.cell? ⟨g, off + j, none⟩ = w.cell? ⟨g, off + j, none⟩ := fun j => Hf.out.cell (p := ⟨g, off + j, none⟩) hg (by simp)
      have e0 := (hgw _).trans (hc _ _ f0)
      have e1 := (hgw _).trans (hc _ _ f1)
      have e2 := (hgw _).trans (hc _ _ f2)
      have e3 := (hgw _).trans (hc _ _ f3)
      simp only [← Nat.add_assoc] at e1 e2 e3
      have hgr : g < wr.heap.size := by omega
      have Hx := Lib.hid hx
      clear hx hc f0 f1 f2 f3 hgw
      go_wp2
      (refine wp_region_text (by kernel_rfl) (by kernel_rfl) ?_)
      go_wp2_with (at_builtin; refine append_quad (k := x) (n := k) (base := w.heap.size + 3) (xs := flat (ns.take k)) rfl rfl rfl ?e1 rfl ?e2 ?e3 ?e4 ?_)
      case e1 => exact owns_of_block Hown.out fun y hy => by rw [hp_drew]; exact heap_alloc_else _ _ _ (owns_lt Hown.out hy)
      case e2 => (repeat (first | rw [if_pos (by omega)] | rw [if_neg (by omega)] | rw [hp_drew] | rw [hp_drewN] | rw [hp_alloc_size] | rw [hp_setCell_size] | rw [hp_alloc] | rw [hp_setCell] | rw [Option.map_some] | rw [upd_cells] | rw [List.set_cons_zero] | rw [List.set_cons_succ] | rfl))
      case e3 => omega
      case e4 => rw [hp_drew, hp_alloc_size]; omega
      intro g' cap w1 hown1 hW1 hF1 hloc1 hg1
      have old : ∀ y, y < w.heap.size + 3 → w1.heap[y]? = wr.heap[y]? := fun y hy => (hW1 y (by have := Hsz.out; first | omega | (simp only [hp_drew, hp_alloc_size]; omega)) (fun e => by have := Hnb.out y e; omega)).trans (by rw [hp_drew]; exact heap_alloc_else _ _ _ (by have := Hsz.out; omega))
      have hb2 := (old (w.heap.size + 2) (by omega)).trans H2.out
      have o0 := heap_eq_cell hb2 0
      have o1 := heap_eq_cell hb2 1
      have p1 := heap_eq_frozen hb2 1
      have Hown1 := Lib.hid hown1
      have Hold := Lib.hid old
      have HF1 := Lib.hid hF1
      have HB2 := Lib.hid hb2
      clear hown1 hW1 hF1 hloc1 old hb2
      have hs1 : w.heap.size + 2 < w1.heap.size := lt_of_block HB2.out
      go_wp2
      refine Strict.intro rfl ?_
      go_wp2
      go_roundw
      case rel =>
        have hG : w.heap.size + 3 ≤ g' := owns_ge Hown1.out rfl
        refine ⟨k + 1, .slice (some ⟨g', 0, none⟩) (k + 1) cap, by go_num, by omega, ?_, ?_, ?_, ?_, ?_, ?_⟩
        · refine (((Hf.out.alloc _).drew).trans HF1.out fun y hy => ?_).setCell (Or.inr (by simp; omega)) _
          have := Hnb.out y (by simpa using hy)
          right; omega
        · rw [hp_setCell_size]; have := HF1.out.size; simp only [hp_drew, hp_alloc_size] at this; have := Hsz.out; omega
        · rw [hp_setCell, if_neg (by omega), Hold.out _ (by omega)]; exact H0.out
        · rw [hp_setCell, if_neg (by omega), Hold.out _ (by omega)]; exact H1.out
        · rw [hp_setCell, if_pos rfl, HB2.out]; rfl
        · have ht : flat (ns.take (k + 1)) = flat (ns.take k) ++ kcells x := by
            rw [List.take_add_one, List.getElem?_eq_getElem hlt, ← Hx.out]
            exact flat_snoc _ _
          rw [ht]
          refine owns_of_block Hown1.out fun y hy => ?_
          have : g' = y := by simpa [Value.ownBlock] using hy
          rw [hp_setCell, if_neg (by omega)]
      case measure => simp [intOf]; omega
    · go_wp2
      refine bodyPost_ret (v := .agg #[.int .i64 s, .slice na k nc]) (by simp [results, Try.results75, go_sem, r0, r1]) rfl ⟨_, rfl, ?_, ?_⟩
      · have hkn : k = ns.length := by omega
        subst hkn
        rw [List.take_of_length_le (Nat.le_refl _)] at Hown
        refine owns_of_block (owns_base Hown.out (by omega)) fun y hy => ?_
        have := Hnb.out y hy
        exact heap_setCell2 _ _ _ _ _ _ (by omega)
      · exact (Hf.out.setCell (Or.inr (by simp)) _).setCell (Or.inr (by simp)) _
end Go.Proofs.Ytdanghnadbkhfaa
end

section
/- The reference's store of layer 25: Load. -/
namespace Go.Proofs.Ytdanghnadbkhfaa
set_option linter.unusedVariables false
set_option linter.unusedSimpArgs false
open Go Go.RowKit Go.Proofs.Rg Go.Proofs.Mp Go.Proofs.Hp Go.Proofs.Qs
/-- the reference's store: one block with the number of states and the nodes -/
structure RefIn (w : World) (b : Nat) (s : Int) (ns : List K4) (nv : Value) : Prop where
  blk : w.heap[b]? = some (.cells #[.int .i64 s, nv] 145 (0, 0))
  nodes : w.ownsRow 0 136 4 nv ns.length (flat ns)
  ne : nv.ownBlock ≠ some b
def RefAt (w : World) (b : Nat) (s : Int) (ns : List K4) (F : List Nat) : Prop := GoodQ s ns ∧ ∃ nv, RefIn w b s ns nv ∧ F = b :: nv.ownBlock.toList
theorem RefAt.keep {w w' : World} {b : Nat} {s : Int} {ns : List K4} {F : List Nat} (h : RefAt w b s ns F) (hk : ∀ x ∈ F, w'.heap[x]? = w.heap[x]?) : RefAt w' b s ns F := by
  obtain ⟨hg, nv, hI, rfl⟩ := h
  exact ⟨hg, nv, ⟨(hk b (by simp)).trans hI.blk, owns_of_block hI.nodes fun g hg => hk g (by simp [hg]), hI.ne⟩, rfl⟩
theorem RefAt.lt {w : World} {b : Nat} {s : Int} {ns : List K4} {F : List Nat} (h : RefAt w b s ns F) : ∀ x ∈ F, x < w.heap.size := by
  obtain ⟨_, nv, hI, rfl⟩ := h
  intro x hx
  simp only [List.mem_cons, Option.mem_toList] at hx
  rcases hx with rfl | hx
  · exact lt_of_block hI.blk
  · exact owns_lt hI.nodes hx
theorem RefAt.fr {w w' : World} {b : Nat} {s : Int} {ns : List K4} {F G : List Nat} (h : RefAt w b s ns F) (hf : Fr G w w') (hd : ∀ x ∈ F, x ∉ G) : RefAt w' b s ns F := h.keep fun x hx => hf.block x (h.lt x hx) (hd x hx)
/-- what the reference's Load leaves -/
def RLoadPost (w : World) (s : Int) (ns : List K4) (e : Ending) (w' : World) : Prop :=
  (GoodQ s ns → ∃ b F, e = .returned (.tuple #[.pointer (some ⟨b, 0, none⟩), .int .i64 0]) ∧ RefAt w' b s ns F ∧ Fr [] w w' ∧ ∀ x ∈ F, w.heap.size ≤ x) ∧
  (¬ GoodQ s ns → e = .returned (.tuple #[.pointer none, .int .i64 2]) ∧ Fr [] w w')
set_option maxHeartbeats 4000000 in
theorem RLoad_calls {w : World} {s : Int} {ns : List K4} {v : Value} (hl : ns.length ≤ 90000) (hv : Reads w v ns.length 4 (flat ns)) :
    Calls Try.prog 50 #[.agg #[.int .i64 s, v]] w (RLoadPost w s ns) := by
  have hvk := hv
  obtain ⟨_, a, c, rfl, hav⟩ := hv
  have Hvk := Lib.hid hvk
  have Hl := Lib.hid hl
  clear hav hvk hl
  go_enter Try.func50, Try.ntmps50
  go_wp2_with fail
  have hbx : (w.alloc (.cells #[.int .i64 s, .slice a ns.length c] 56)).heap[w.heap.size]? = some (.cells #[.int .i64 s, .slice a ns.length c] 56 (0, 0)) := by (repeat (first | rw [if_pos (by omega)] | rw [if_neg (by omega)] | rw [hp_drew] | rw [hp_drewN] | rw [hp_alloc_size] | rw [hp_setCell_size] | rw [hp_alloc] | rw [hp_setCell] | rw [Option.map_some] | rw [upd_cells] | rw [List.set_cons_zero] | rw [List.set_cons_succ] | rfl))
  have hf0 : Fr [] w (w.alloc (.cells #[.int .i64 s, .slice a ns.length c] 56)) := by (repeat (first | exact Fr.refl _ _ | assumption | apply Fr.drewN | apply Fr.drew | apply Fr.alloc | refine Fr.setCell ?_ (Or.inr (by simp; try omega)) _))
  generalize w.alloc (.cells #[.int .i64 s, .slice a ns.length c] 56) = w0 at *
  refine (R25Right_calls (by have := Hl.out; omega) (Hvk.out.fr hf0)).mono ?_
  rintro e w1 ⟨rfl, hf1⟩
  have hb1 := (hf1.block _ (lt_of_block hbx) (by simp)).trans hbx
  have c0 := heap_eq_cell hb1 0
  have c1 := heap_eq_cell hb1 1
  simp at c0 c1
  have Hf1 := Lib.hid (hf0.trans0 hf1)
  clear hb1 hbx hf0 hf1
  by_cases hg : GoodQ s ns
  · rw [decide_eq_true hg]
    have Hg := Lib.hid hg
    clear hg
    go_wp2_with fail
    refine (copied_ref (by have := Hl.out; omega) (Hvk.out.fr Hf1.out)).mono ?_
    rintro e w2 ⟨v, rfl, ho, hf2⟩
    obtain ⟨va, vc, rfl, _⟩ := owns_form ho
    have Ho := Lib.hid ho
    have Hf2 := Lib.hid hf2
    clear ho hf2
    go_wp2
    go_ret2
    refine ⟨fun _ => ⟨w2.heap.size, w2.heap.size :: (Value.slice va ns.length vc).ownBlock.toList, rfl, ⟨Hg.out, _, ⟨by (repeat (first | rw [if_pos (by omega)] | rw [if_neg (by omega)] | rw [hp_drew] | rw [hp_drewN] | rw [hp_alloc_size] | rw [hp_setCell_size] | rw [hp_alloc] | rw [hp_setCell] | rw [Option.map_some] | rw [upd_cells] | rw [List.set_cons_zero] | rw [List.set_cons_succ] | rfl)), ?_, ?_⟩, rfl⟩, (Hf1.out.trans0 Hf2.out).alloc _, ?_⟩, fun h => absurd Hg.out h⟩
    · exact owns_of_block (owns_base Ho.out (by omega)) fun x hx => heap_alloc_else _ _ _ (owns_lt Ho.out hx)
    · intro h
      have := owns_lt Ho.out h
      omega
    · intro x hx
      simp only [List.mem_cons, Option.mem_toList] at hx
      have h1 := Hf1.out.size
      have h2 := Hf2.out.size
      rcases hx with rfl | hx
      · omega
      · have := owns_ge Ho.out hx; omega
  · rw [decide_eq_false hg]
    have Hg := Lib.hid hg
    clear hg
    go_wp2
    go_ret2
    exact ⟨fun h => absurd h Hg.out, fun _ => ⟨rfl, Hf1.out⟩⟩
end Go.Proofs.Ytdanghnadbkhfaa
end

section
/- Law 26: loaded. -/
namespace Go.Proofs.Ytdanghnadbkhfaa
open Go Go.RowKit Go.Proofs.Rg Go.Proofs.Mp Go.Proofs.Hp Go.Proofs.Qs Go.Proofs.Ev
set_option linter.unusedVariables false
set_option linter.unusedSimpArgs false
/-- the reference's store as a thing -/
def refR (b : Nat) (s : Int) (ns : List K4) : Res where
  holds w F := RefAt w b s ns F
  keep := fun h hk => h.keep hk
  lt := fun h => h.lt
def LoadedPost (w : World) (s : Int) (ns : List K4) (e : Ending) (w' : World) : Prop :=
  (ns.length ≤ 100 ∧ GoodQ s ns → ∃ b r, e = .returned (.tuple #[.pointer (some ⟨b, 0, none⟩), .pointer (some ⟨r, 0, none⟩), .bool true]) ∧ Has w w' [storeR b s ns, refR r s ns]) ∧
  (¬ (ns.length ≤ 100 ∧ GoodQ s ns) → e = .returned (.tuple #[.pointer none, .pointer none, .bool false]) ∧ Fr [] w w')
set_option maxHeartbeats 4000000 in
theorem loaded_q {w : World} {s : Int} {ns : List K4} {v : Value} (hv : Reads w v ns.length 4 (flat ns)) :
    Calls Try.prog 22 #[.agg #[.int .i64 s, v]] w (LoadedPost w s ns) := by
  have hvk := hv
  obtain ⟨_, a, c, rfl, _⟩ := hv
  have Hv := Lib.hid hvk
  clear hvk
  by_cases hl : 100 < ns.length
  · have hd : decide ((100 : Int) < ↑ns.length) = true := by simp; omega
    have hd2 : decide (100 < ns.length) = true := by simpa using hl
    have Hl := Lib.hid hl
    clear hl
    go_enter Try.func22, Try.ntmps22
    go_wp2
    go_ret3
    exact ⟨fun h => by have := Hl.out; omega, fun _ => ⟨rfl, by (repeat (first | exact Fr.refl _ _ | assumption | apply Fr.drewN | apply Fr.drew | apply Fr.alloc | refine Fr.setCell ?_ (Or.inr (by simp; try omega)) _))⟩⟩
  have hd : decide ((100 : Int) < ↑ns.length) = false := by simp; omega
  have hd2 : decide (100 < ns.length) = false := by simpa using hl
  have Hl := Lib.hid hl
  clear hl
  by_cases hg : GoodQ s ns
  · have Hg := Lib.hid hg
    clear hg
    go_enter Try.func22, Try.ntmps22
    go_wp2_with fail
    refine (R25Right_calls (s := s) (by have := Hl.out; omega) (Hv.out.fr (by (repeat (first | exact Fr.refl _ _ | assumption | apply Fr.drewN | apply Fr.drew | apply Fr.alloc | refine Fr.setCell ?_ (Or.inr (by simp; try omega)) _))))).mono ?_
    rintro e w1 ⟨rfl, hf⟩
    rw [decide_eq_true Hg.out]
    have hb := (hf.block w.heap.size (by simp) (by simp)).trans (show _ = some (.cells #[.int .i64 s, .slice a ns.length c] 56 (0, 0)) by (repeat (first | rw [if_pos (by omega)] | rw [if_neg (by omega)] | rw [hp_drew] | rw [hp_drewN] | rw [hp_alloc_size] | rw [hp_setCell_size] | rw [hp_alloc] | rw [hp_setCell] | rw [Option.map_some] | rw [upd_cells] | rw [List.set_cons_zero] | rw [List.set_cons_succ] | rfl)))
    have c0 := heap_eq_cell hb 0
    have c1 := heap_eq_cell hb 1
    have hbl := lt_of_block hb
    have Hb := Lib.hid hb
    have Hf := Lib.hid (Fr.trans0 (by (repeat (first | exact Fr.refl _ _ | assumption | apply Fr.drewN | apply Fr.drew | apply Fr.alloc | refine Fr.setCell ?_ (Or.inr (by simp; try omega)) _)) : Fr [] w _) hf)
    clear hf hb
    go_wp2_with fail
    refine (Load_calls (s := s) (by have := Hl.out; omega) (Hv.out.fr Hf.out)).mono ?_
    rintro e w2 ⟨h1, _⟩
    obtain ⟨b, F, rfl, hS, hf, hF⟩ := h1 Hg.out
    have h2 : Has w w2 [storeR b s ns] := (Has.nil Hf.out).new hf hS hF
    have hb := (hf.block _ (lt_of_block Hb.out) (by simp)).trans Hb.out
    clear c0 c1 hbl
    have c0 := heap_eq_cell hb 0
    have c1 := heap_eq_cell hb 1
    have hbl := lt_of_block hb
    have H2 := Lib.hid h2
    clear h1 hS hf hF h2 hb
    go_wp2_with fail
    refine (RLoad_calls (s := s) (by have := Hl.out; omega) (Hv.out.fr H2.out.fr)).mono ?_
    rintro e w3 ⟨h1, _⟩
    obtain ⟨r, G, rfl, hR, hf, hG⟩ := h1 Hg.out
    have H3 := Lib.hid (show Has w w3 [refR r s ns, storeR b s ns] from H2.out.new hf hR hG)
    clear h1 hR hf hG c0 c1 hbl
    go_wp2
    go_ret3
    exact ⟨fun _ => ⟨b, r, rfl, H3.out.swap⟩, fun h => absurd ⟨by have := Hl.out; omega, Hg.out⟩ h⟩
  · have Hg := Lib.hid hg
    clear hg
    go_enter Try.func22, Try.ntmps22
    go_wp2_with fail
    refine (R25Right_calls (s := s) (by have := Hl.out; omega) (Hv.out.fr (by (repeat (first | exact Fr.refl _ _ | assumption | apply Fr.drewN | apply Fr.drew | apply Fr.alloc | refine Fr.setCell ?_ (Or.inr (by simp; try omega)) _))))).mono ?_
    rintro e w1 ⟨rfl, hf⟩
    rw [decide_eq_false Hg.out]
    have Hf := Lib.hid (Fr.trans0 (by (repeat (first | exact Fr.refl _ _ | assumption | apply Fr.drewN | apply Fr.drew | apply Fr.alloc | refine Fr.setCell ?_ (Or.inr (by simp; try omega)) _)) : Fr [] w _) hf)
    clear hf
    go_wp2
    go_ret3
    exact ⟨fun h => absurd h.2 Hg.out, fun _ => ⟨rfl, Hf.out⟩⟩
end Go.Proofs.Ytdanghnadbkhfaa
end

section
/- What Expand and Centre lead to. Nothing of a program. -/
namespace Go.Proofs.Ytdanghnadbkhfaa
open Go Go.Proofs.Qs Go.Proofs.Ev
set_option linter.unusedVariables false
set_option linter.unusedSimpArgs false
end Go.Proofs.Ytdanghnadbkhfaa
end

section
/- Law QuadmapFrames, walked. -/
namespace Go.Proofs.Ytdanghnadbkhfaa
open Go Go.RowKit Go.Proofs.Rg Go.Proofs.Mp Go.Proofs.Hp Go.Proofs.Qs Go.Proofs.Ev Go.Proofs.Bn Go.Proofs.Pt
set_option linter.unusedVariables false
set_option linter.unusedSimpArgs false
end Go.Proofs.Ytdanghnadbkhfaa
end

section
/- Changing a cell and reading it: what Set and Get answer. Nothing of a program. -/
namespace Go.Proofs.Ytdanghnadbkhfaa
open Go Go.Proofs.Qs Go.Proofs.Ev Go.Proofs.Bn
set_option linter.unusedVariables false
set_option linter.unusedSimpArgs false
/-- Get where place is silent -/
theorem get_is {s : Int} {ns : List K4} (hg : GoodQ s ns) {n : Nat} {id : Int} {t : Tr} (hi : Is s ns n id t) {nx ny : Bool} {dx dy : List Nat} (hp : placeE n nx dx ny dy = 0) : getQ s ns id nx dx ny dy = (lookT n t (sv nx dx).toNat (sv ny dy).toNat, 0) := by
  unfold getQ
  rw [hi.lvl hg, hp, if_neg (by simp), Int.toNat_natCast, lookQ_is hg hi]
theorem get_bad {s : Int} {ns : List K4} {id : Int} {nx ny : Bool} {dx dy : List Nat} (hp : placeE (lvl s (levs s ns) id) nx dx ny dy ≠ 0) : getQ s ns id nx dx ny dy = (0, placeE (lvl s (levs s ns) id) nx dx ny dy) := by
  unfold getQ; rw [if_pos hp]
theorem change_is {s : Int} {ns : List K4} (hg : GoodQ s ns) (hl : ns.length ≤ 2000) {n : Nat} {id : Int} {t : Tr} (hi : Is s ns n id t) (hn : n ≤ 256) {nx ny : Bool} {dx dy : List Nat} (hp : placeE n nx dx ny dy = 0) {st : Int} (h0 : 0 ≤ st) (h1 : st < s) :
    ∃ id' ms, changeQ s ns id nx dx ny dy st = ((id', 0), ms) ∧ GoodQ s ms ∧ ns <+: ms ∧ ms.length ≤ ns.length + n ∧ Is s ms n id' (setT n t (sv nx dx).toNat (sv ny dy).toNat st) := by
  obtain ⟨id', ms, h2, h3, h4, h5, h6⟩ := setQ_ok h0 h1 (x := (sv nx dx).toNat) (y := (sv ny dy).toNat) hg hi hn (by omega)
  refine ⟨id', ms, ?_, h3, h4, h5, h6⟩
  unfold changeQ
  rw [hi.lvl hg, hp, if_neg (by simp), if_neg (by omega), Int.toNat_natCast]
  exact h2
/-- the values that place lets by -/
theorem place_vals {n : Nat} {nx ny : Bool} {dx dy : List Nat} (h : placeE n nx dx ny dy = 0) : RightB nx dx = true ∧ RightB ny dy = true ∧ 0 ≤ sv nx dx ∧ sv nx dx < ((2 ^ n : Nat) : Int) ∧ 0 ≤ sv ny dy ∧ sv ny dy < ((2 ^ n : Nat) : Int) := by
  unfold placeE at h
  rw [if_neg (by omega), Int.toNat_natCast] at h
  split at h
  · omega
  rename_i hr
  split at h
  · rename_i hb
    refine ⟨?_, ?_, hb⟩
    · cases h1 : RightB nx dx <;> simp_all
    · cases h1 : RightB nx dx <;> cases h2 : RightB ny dy <;> simp_all
  · omega
theorem sv_inj {na nb : Bool} {da db : List Nat} (ra : RightB na da = true) (rb : RightB nb db = true) (ha : Dig 4294967296 da) (hb : Dig 4294967296 db) (h : sv na da = sv nb db) : na = nb ∧ da = db := by
  obtain ⟨z, h1, h2, h3⟩ := right_z ra ha
  obtain ⟨y, k1, k2, k3⟩ := right_z rb hb
  have e1 : sv na da = z := by rw [h2, h3, zd_sv]
  have e2 : sv nb db = y := by rw [k2, k3, zd_sv]
  have : z = y := by omega
  subst this
  exact ⟨h2.trans k2.symm, h3.trans k3.symm⟩
/-- what QuadmapCells compares, where Set does -/
structure CellsOk (s : Int) (ns : List K4) (node : Int) (na : Bool) (da : List Nat) (nb : Bool) (db : List Nat) (nx : Bool) (dx : List Nat) (ny : Bool) (dy : List Nat) (st id old : Int) (ms m2 : List K4) : Prop where
  set : changeQ s ns node nx dx ny dy st = ((id, 0), ms)
  get : getQ s ns node nx dx ny dy = (old, 0)
  again : changeQ s ms node nx dx ny dy old = ((node, 0), m2)
  now : getQ s m2 id nx dx ny dy = (st, 0)
  other : (getQ s ns node na da nb db).2 = 0 → ∃ v, getQ s m2 id na da nb db = (v, 0) ∧ ((na = nx ∧ da = dx) ∧ (nb = ny ∧ db = dy) → v = st) ∧ (¬ ((na = nx ∧ da = dx) ∧ (nb = ny ∧ db = dy)) → v = (getQ s ns node na da nb db).1)
theorem cells_ok {s : Int} {ns : List K4} (hg : GoodQ s ns) (hl : ns.length ≤ 100) {node : Int} {na : Bool} {da : List Nat} {nb : Bool} {db : List Nat} {nx : Bool} {dx : List Nat} {ny : Bool} {dy : List Nat} (ha : Dig 4294967296 da) (hb : Dig 4294967296 db) (hx : Dig 4294967296 dx) (hy : Dig 4294967296 dy) {st : Int}
    (hp : placeE (lvl s (levs s ns) node) nx dx ny dy = 0) (h0 : 0 ≤ st) (h1 : st < s) : ∃ id old ms m2, CellsOk s ns node na da nb db nx dx ny dy st id old ms m2 := by
  obtain ⟨n, hn, hn2, hi, _⟩ := placeE_zero hg hp
  rw [hn] at hp
  obtain ⟨rx, ry, vx1, vx2, vy1, vy2⟩ := place_vals hp
  obtain ⟨id, ms, e1, g1, p1, l1, i1⟩ := change_is hg (by omega) hi hn2 hp h0 h1
  have hold := lookT_lt hg hi (x := (sv nx dx).toNat) (y := (sv ny dy).toNat)
  obtain ⟨id2, m2, e2, g2, p2, l2, i2⟩ := change_is g1 (by omega) (hi.grow p1) hn2 hp hold.1 hold.2
  rw [setT_look hi.2.2.1] at i2
  have hnode := Is.inj g2 i2 (hi.grow (p1.trans p2))
  subst hnode
  have i3 := i1.grow p2
  refine ⟨id, lookT n (tr s ns id2) (sv nx dx).toNat (sv ny dy).toNat, ms, m2, e1, get_is hg hi hp, e2, ?_, fun he => ?_⟩
  · rw [get_is g2 i3 hp, lookT_setT_same hi.2.2.1]
  · have hpa : placeE n na da nb db = 0 := by
      by_cases hz : placeE n na da nb db = 0
      · exact hz
      · rw [get_bad (by rw [hn]; exact hz), hn] at he
        exact absurd he hz
    obtain ⟨ra, rb, va1, va2, vb1, vb2⟩ := place_vals hpa
    rw [get_is hg hi hpa]
    refine ⟨_, get_is g2 i3 hpa, fun h => ?_, fun h => ?_⟩
    · obtain ⟨⟨rfl, rfl⟩, rfl, rfl⟩ := h
      exact lookT_setT_same hi.2.2.1
    · refine lookT_setT_else hi.2.2.1 ?_
      rw [Nat.mod_eq_of_lt (by omega), Nat.mod_eq_of_lt (by omega), Nat.mod_eq_of_lt (by omega), Nat.mod_eq_of_lt (by omega)]
      by_cases hxa : sv nx dx = sv na da
      · right
        intro hyb
        have e3 : sv ny dy = sv nb db := by omega
        obtain ⟨q1, q2⟩ := sv_inj rx ra hx ha hxa
        obtain ⟨q3, q4⟩ := sv_inj ry rb hy hb e3
        exact h ⟨⟨q1.symm, q2.symm⟩, q3.symm, q4.symm⟩
      · left; omega
end Go.Proofs.Ytdanghnadbkhfaa
end
