/- Own texts of this claim, part 24: no condition. -/
import Derived.Test.YtppmnmheodimoaaZM14
import Derived.Test.YtppmnmheodimoaaZM22
section
/- The reference's square of rows, and a rule's value. -/
namespace Go.Proofs.Ytppmnmheodimoaa
open Go Go.RowKit Go.Proofs.Rg Go.Proofs.Mp Go.Proofs.Hp Go.Proofs.Qs Go.Proofs.Ev
set_option linter.unusedVariables false
set_option linter.unusedSimpArgs false
/-- rows in blocks that lie off a list -/
def RowsOff (w : World) (v : Value) (L : List (List Int)) (G : List Nat) : Prop :=
  ∃ vs : List Value, Reads w v L.length 1 vs ∧ (∀ g, v.ownBlock = some g → g < w.heap.size ∧ g ∉ G) ∧ ∀ (i : Nat) (r : List Int), L[i]? = some r → ∃ u, vs[i]? = some u ∧ IntsAt w u r ∧ CapOk u ∧ ∀ g, u.ownBlock = some g → g < w.heap.size ∧ g ∉ G
theorem RowsOff.fit {w : World} {v : Value} {L : List (List Int)} {G : List Nat} (h : RowsOff w v L G) : RowsFit w v L := by
  obtain ⟨vs, h1, _, h2⟩ := h
  exact ⟨vs, h1, fun i r hi => by obtain ⟨u, hu, h3, h4, _⟩ := h2 i r hi; exact ⟨u, hu, h3, h4⟩⟩
theorem RowsOff.step {w w' : World} {v : Value} {L : List (List Int)} {G G' : List Nat} (h : RowsOff w v L G) (hf : Fr G w w') (hG : ∀ x ∈ G', x ∈ G ∨ w.heap.size ≤ x) : RowsOff w' v L G' := by
  obtain ⟨vs, h1, h2, h3⟩ := h
  have hsz := hf.size
  have key : ∀ g, g < w.heap.size ∧ g ∉ G → g < w'.heap.size ∧ g ∉ G' := fun g hg => ⟨by omega, fun hx => by rcases hG g hx with h | h; exact hg.2 h; omega⟩
  refine ⟨vs, h1.keep fun x hx hlt => hf.block x hlt (h2 x hx).2, fun g hg => key g (h2 g hg), fun i r hi => ?_⟩
  obtain ⟨u, hu, h4, h5, h6⟩ := h3 i r hi
  exact ⟨u, hu, Reads.keep h4 fun x hx hlt => hf.block x hlt (h6 x hx).2, h5, fun g hg => key g (h6 g hg)⟩
theorem Gath.off {w : World} {base : Nat} {P : Nat → Prop} {v : Value} {L : List (List Int)} (h : Gath w base P v L) {G : List Nat} (hG : ∀ x ∈ G, x < base ∧ ¬ P x) : RowsOff w v L G := by
  obtain ⟨vs, ho, hr⟩ := h
  refine ⟨vs, Reads.of_owns ho, fun g hg => ⟨owns_lt ho hg, fun hx => by have := owns_ge ho hg; have := (hG g hx).1; omega⟩, fun i r hi => ?_⟩
  obtain ⟨u, hu, h1, h2, h3⟩ := hr i r hi
  exact ⟨u, hu, h1, h2, fun g hg => ⟨(h3 g hg).1, fun hx => (hG g hx).2 (h3 g hg).2.1⟩⟩
theorem row_off {w : World} {a : Option Addr} {n c : Nat} {L : List (List Int)} {G : List Nat} (h : RowsOff w (.slice a n c) L G) {i : Nat} {r : List Int} (hi : L[i]? = some r) (hr : 0 < r.length) :
    ∃ g off g2 off2 rc, a = some ⟨g, off, none⟩ ∧ g < w.heap.size ∧ w.cell? ⟨g, off + i, none⟩ = some (.slice (some ⟨g2, off2, none⟩) r.length rc) ∧ IntsAt w (.slice (some ⟨g2, off2, none⟩) r.length rc) r ∧ g2 < w.heap.size ∧ r.length ≤ rc ∧ g2 ∉ G := by
  obtain ⟨vs, ⟨hl, a', c', he, hp⟩, _, h2⟩ := h
  cases he
  obtain ⟨u, hu, hint, hft, hg6⟩ := h2 i r hi
  obtain ⟨ra, rc, rfl⟩ := hint.form
  have hlt := (List.getElem?_eq_some_iff.1 hi).1
  obtain ⟨g, off, rfl, hg, hc⟩ := hp (by omega)
  obtain ⟨x, hx⟩ : ∃ x, r[0]? = some x := ⟨_, List.getElem?_eq_getElem hr⟩
  obtain ⟨g2, off2, rfl, hg2, _⟩ := hint.cell hx
  exact ⟨g, off, g2, off2, rc, rfl, hg, hc i _ hu, hint, hg2, hft, (hg6 g2 rfl).2⟩
set_option maxHeartbeats 4000000 in
set_option maxRecDepth 100000 in
theorem RSquare_calls {w : World} {a : Option Addr} {m c x y n : Nat} {F : Fld} {ox oy : Int} {G : List Nat} (hl : RowsOff w (.slice a m c) (gridL m F ox oy) G) (hG : ∀ x ∈ G, x < w.heap.size) (hx : x + n ≤ m) (hy : y + n ≤ m) (hn : 1 ≤ n) (hm : m ≤ 1000) :
    Calls Try.prog 49 #[.slice a m c, .int .i64 x, .int .i64 y, .int .i64 n] w fun e w' => ∃ c', ∃ a', e = .returned (.slice a' n c') ∧ RowsOff w' (.slice a' n c') (gridL n F (ox + x) (oy + y)) G ∧ Fr [] w w' := by
  have HL := Lib.hid hl
  have HG9 := Lib.hid hG
  clear hl hG
  go_enter Try.func49, Try.ntmps49
  go_wp2
  go_loopw [9, 10] (fun x9 x10 wr => ∃ i : Nat, x10 = .int .i64 ((y + i : Nat) : Int) ∧ i ≤ n ∧ Hid (Gath wr w.heap.size (fun g => g ∉ G) x9 (rowsL i n F (ox + x) (oy + y))) ∧ Hid (Fr [] w wr)) (fun _ z _ => y + n - (intOf z).toNat)
  case atStart => exact ⟨0, rfl, by omega, Lib.hid (Gath.nil _ _ _), Lib.hid (Fr.refl _ _)⟩
  case round =>
    obtain ⟨i, rfl, hi, HG, Hf⟩ := hrel
    by_cases hlt : i < n
    · have hro := row_off HL.out (gridL_get (F := F) (ox := ox) (oy := oy) (show y + i < m by omega)) (by rw [rowL_length]; omega)
      rw [rowL_length] at hro
      obtain ⟨g, off, g2, off2, rc, rfl, lg, cg, hint, lg2, hrc, hng⟩ := hro
      have HI := Lib.hid (hint.fr Hf.out)
      have cg1 := (Hf.out.cell (p := ⟨g, off + (y + i), none⟩) lg (by simp)).trans cg
      have HB := Lib.hid (show g2 < wr.heap.size ∧ g2 ∉ G ∧ u9.ownBlock ≠ some g2 from ⟨by have := Hf.out.size; omega, hng, fun e => by
        obtain ⟨vs, ho, _⟩ := HG.out
        have := owns_ge ho e
        omega⟩)
      have lg1 : g < wr.heap.size := by have := Hf.out.size; omega
      clear hint cg lg lg2 hng
      go_wp2_with (at_builtin; refine append_row (base := w.heap.size) (P := fun g => g ∉ G) (u := .slice (some ⟨g2, off2 + x, none⟩) n (rc - x)) (L := rowsL i n F (ox + x) (oy + y)) (r := rowL n F (ox + x) (oy + y + i)) rfl rfl rfl rfl ?g1 ?g2 ?g3 ?g4 ?g5 ?g6 ?g7 ?_)
      case g1 => exact HG.out.fr (by (repeat (first | exact Fr.refl _ _ | assumption | apply Fr.drewN | apply Fr.drew | apply Fr.alloc | refine Fr.setCell ?_ (Or.inr (by simp; try omega)) _)))
      case g2 => (repeat (first | rw [if_pos (by omega)] | rw [if_neg (by omega)] | rw [hp_drew] | rw [hp_drewN] | rw [hp_alloc_size] | rw [hp_setCell_size] | rw [hp_alloc] | rw [hp_setCell] | rw [Option.map_some] | rw [upd_cells] | rw [List.set_cons_zero] | rw [List.set_cons_succ] | rfl))
      case g3 =>
        refine IntsAt.fr (w := wr) ?_ (by (repeat (first | exact Fr.refl _ _ | assumption | apply Fr.drewN | apply Fr.drew | apply Fr.alloc | refine Fr.setCell ?_ (Or.inr (by simp; try omega)) _)))
        have h := HI.out.part (a := none) (i := x) (m := n) (c' := rc - x) (by rw [rowL_length]; omega)
        rw [rowL_slice hx, show oy + ((y + i : Nat) : Int) = oy + y + i by omega] at h
        exact h
      case g4 => show n ≤ rc - x; omega
      case g5 =>
        intro q hq
        have hq : g2 = q := by simpa [Value.ownBlock] using hq
        subst hq
        have := HB.out
        exact ⟨by rw [hp_alloc_size]; omega, this.2⟩
      case g6 => rw [rowsL_length]; omega
      case g7 => have h3 := Hf.out.size; rw [hp_alloc_size]; omega
      intro v8 w8 hg8 hF8 hloc8
      have HF8 := Lib.hid (show Fr [] w w8 from Fr.trans (Fr.trans0 Hf.out (by (repeat (first | exact Fr.refl _ _ | assumption | apply Fr.drewN | apply Fr.drew | apply Fr.alloc | refine Fr.setCell ?_ (Or.inr (by simp; try omega)) _)))) hF8 fun z hz => .inr (by
        obtain ⟨vs, ho, _⟩ := HG.out
        exact owns_ge ho (by simpa using hz)))
      have HG8 := Lib.hid (show Gath w8 w.heap.size (fun g => g ∉ G) v8 (rowsL (i + 1) n F (ox + x) (oy + y)) by rw [← rowsL_snoc]; exact hg8)
      clear hg8 hF8 hloc8
      go_wp2
      go_roundw
      case rel => exact ⟨i + 1, by go_num, by omega, HG8, HF8⟩
      case measure => simp [intOf]; omega
    · obtain rfl : n = i := by omega
      obtain ⟨ao, co, hao⟩ := HG.out.form
      rw [rowsL_length] at hao
      have hG := HG.out
      rw [hao] at hG
      subst hao
      have HOFF := Lib.hid (hG.off (G := G) fun x hx => ⟨HG9.out x hx, fun h => h hx⟩)
      clear hG HG
      go_wp2
      go_ret
      exact ⟨co, ao, rfl, HOFF.out, Hf.out⟩
/-- the value of a rule at states -/
theorem RValue_calls {w : World} {r : Rule} {ha na : Option Addr} {hc nc : Nat} {b : Option Addr} {c : Nat} {ss : List Int} (hR : rightR r = true) (hn : NodesAt w (.slice na r.nodes.length nc) r.nodes) (hi : IntsAt w (.slice b ss.length c) ss) (hl : ss.length = r.hood.length) (hs : ∀ s ∈ ss, 0 ≤ s ∧ s < r.S) :
    Calls Try.prog 68 #[.agg #[.int .i64 r.S, .slice ha r.hood.length hc, .slice na r.nodes.length nc], .slice b ss.length c] w fun e w' => e = .returned (.int .i64 (down r ss)) ∧ Fr [] w w' := by
  have HN := Lib.hid hn
  have HI := Lib.hid hi
  have HS := Lib.hid hs
  have HL := Lib.hid hl
  have hh := right_hlen hR
  have hnl := right_len hR
  have hlen : ss.length ≤ 25 := by omega
  clear hn hi hs hl hh
  go_enter Try.func68, Try.ntmps68
  go_wp2
  obtain ⟨w1, hw1⟩ : ∃ w1, w.alloc (Obj.cells #[Value.int .i64 r.S, .slice ha r.hood.length hc, .slice na r.nodes.length nc] 31 (0, 0)) = w1 := ⟨_, rfl⟩
  have hb1 : w1.heap[w.heap.size]? = some (.cells #[Value.int .i64 r.S, .slice ha r.hood.length hc, .slice na r.nodes.length nc] 31 (0, 0)) := by rw [← hw1]; (repeat (first | rw [if_pos (by omega)] | rw [if_neg (by omega)] | rw [hp_drew] | rw [hp_drewN] | rw [hp_alloc_size] | rw [hp_setCell_size] | rw [hp_alloc] | rw [hp_setCell] | rw [Option.map_some] | rw [upd_cells] | rw [List.set_cons_zero] | rw [List.set_cons_succ] | rfl))
  have Hf := Lib.hid (show Fr [] w w1 by rw [← hw1]; (repeat (first | exact Fr.refl _ _ | assumption | apply Fr.drewN | apply Fr.drew | apply Fr.alloc | refine Fr.setCell ?_ (Or.inr (by simp; try omega)) _)))
  rw [hw1]
  have Ht := Lib.hid hb1
  have hnil : down r [] = (r.nodes.length - 1 : Int) := rfl
  obtain ⟨tb, htb⟩ : ∃ t, w.heap.size = t := ⟨_, rfl⟩
  rw [htb] at Ht ⊢
  clear hw1 hb1 htb
  go_loopw [5, 6] (fun x5 x6 wr => ∃ i : Nat, x6 = .int .i64 i ∧ i ≤ ss.length ∧ x5 = .int .i64 (down r (ss.take i)) ∧ Hid (Fr [] w1 wr)) (fun _ z _ => ss.length - (intOf z).toNat)
  case atStart => exact ⟨0, rfl, by omega, by rw [List.take_zero, hnil], Lib.hid (Fr.refl _ _)⟩
  case round =>
    obtain ⟨i, rfl, hi, rfl, Hf1⟩ := hrel
    clear hnil
    have hfk := Hf1.out
    (try clear t0)
    (try clear t1)
    (try clear t2)
    (try clear tl)
    have ht_ := (hfk.block _ (lt_of_block Ht.out) (by simp)).trans Ht.out
    clear Ht
    have t0 := heap_eq_cell ht_ 0
    have t1 := heap_eq_cell ht_ 1
    have t2 := heap_eq_cell ht_ 2
    have tl := lt_of_block ht_
    have Ht := Lib.hid ht_
    clear ht_
    clear hfk
    by_cases hlt : i < ss.length
    · obtain ⟨s, hs⟩ : ∃ s, ss[i]? = some s := ⟨_, List.getElem?_eq_getElem hlt⟩
      have hok := HS.out s (List.mem_of_getElem? hs)
      obtain ⟨gi, oi, hgi, lgi, ci⟩ := (HI.out.fr (Hf.out.trans0 Hf1.out)).cell hs
      have hsn := down_snoc r (ss.take i) s
      rw [show ss.take i ++ [s] = ss.take (i + 1) by rw [List.take_add_one, hs]; rfl] at hsn
      obtain ⟨k, gn, on, g2, off2, rl, rc, hk, hkl, hen, hgn, n1, hrl, hg2, n2⟩ := down_cell (ss := ss.take i) (s := s) hR (HN.out.fr (Hf.out.trans0 Hf1.out)) (fun s hs => HS.out s (List.mem_of_mem_take hs)) (by have := HL.out; rw [List.length_take]; omega) hok.1 hok.2
      rw [hk] at hsn ⊢
      have HSN := Lib.hid hsn
      obtain ⟨s0, s1⟩ := hok
      subst hgi
      subst hen
      clear hsn hk hs
      go_wp2
      (refine wp_region_text (by kernel_rfl) (by kernel_rfl) ?_)
      have s2 : s < (rl : Int) := by omega
      clear hrl s1
      go_wp2
      refine Strict.intro rfl ?_
      go_wp2
      go_roundw
      case rel => exact ⟨i + 1, by go_num, by omega, by rw [HSN.out], by have := Hf1.out; exact Lib.hid (by (repeat (first | exact Fr.refl _ _ | assumption | apply Fr.drewN | apply Fr.drew | apply Fr.alloc | refine Fr.setCell ?_ (Or.inr (by simp; try omega)) _)))⟩
      case measure => simp [intOf]; omega
    · have hi' : i = ss.length := by omega
      rw [hi', List.take_length]
      go_wp2
      go_ret
      exact ⟨rfl, Hf.out.trans0 Hf1.out⟩
end Go.Proofs.Ytppmnmheodimoaa
end
