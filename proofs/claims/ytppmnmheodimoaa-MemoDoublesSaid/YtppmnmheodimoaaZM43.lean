/- Own texts of this claim, part 44: no condition. -/
import Derived.Test.YtppmnmheodimoaaZM40
set_option linter.unusedVariables false
set_option linter.unusedSimpArgs false
section
/- The centre of rows; two steps as one. -/
namespace Go.Proofs.Ev
open Go.Proofs.Qs
/-- two steps with k lead to the centre of a step with k + 1 -/
theorem step_twice {r : Int} {g : Fld → Fld} (hg : Local r g) {n k : Nat} (hn : 3 ≤ n) (hr : r * p2 k ≤ p2 (n - 3)) (t : Tr) :
    stp g (n - 1) k (stp g n k t) = mk (n - 2) (it g (2 ^ (k + 1)) (cell n t)) (p2 (n - 2) + p2 (n - 3)) (p2 (n - 2) + p2 (n - 3)) := by
  have h := stp_mk hg (n := n - 1) (k := k) (by omega) (by rw [show n - 1 - 2 = n - 3 by omega]; exact hr) (it g (2 ^ k) (cell n t)) (p2 (n - 2)) (p2 (n - 2))
  rw [show n - 1 - 1 = n - 2 by omega, show n - 1 - 2 = n - 3 by omega, ← it_add, show 2 ^ k + 2 ^ k = 2 ^ (k + 1) by rw [Nat.pow_succ]; omega] at h
  exact h
end Go.Proofs.Ev
namespace Go.Proofs.Ytppmnmheodimoaa
open Go Go.RowKit Go.Proofs.Rg Go.Proofs.Mp Go.Proofs.Hp Go.Proofs.Qs Go.Proofs.Ev
set_option linter.unusedVariables false
set_option linter.unusedSimpArgs false
set_option maxHeartbeats 4000000 in
set_option maxRecDepth 100000 in
theorem LCentre_calls {w : World} {a : Option Addr} {m c q : Nat} {F : Fld} {ox oy : Int} (hl : RowsFit w (.slice a m c) (gridL m F ox oy)) (hm : m = 4 * q) (hq : 1 ≤ q) (hq2 : q ≤ 100) :
    Calls Try.prog 26 #[.slice a m c] w fun e w' => ∃ v, e = .returned v ∧ RowsAt w' v (gridL (2 * q) F (ox + q) (oy + q)) ∧ Fr [] w w' := by
  have HL := Lib.hid hl
  have HM := Lib.hid hm
  obtain ⟨n, hn⟩ : ∃ n, n = 2 * q := ⟨_, rfl⟩
  rw [← hn]
  have HN := Lib.hid hn
  have hmq : (m : Int) / 4 = q := by omega
  have hmq2 : (m : Int).tdiv 4 = q := by
    rw [show (m : Int) = 4 * q by omega]; exact Int.mul_tdiv_cancel_left _ (by omega)
  have hms : (m : Int) - q = (q : Int) + n := by omega
  have hm4 : m ≤ 400 := by omega
  have hn2 : n ≤ 200 := by omega
  clear hl hm hn
  go_enter Try.func26, Try.ntmps26
  go_wp2
  go_loopw [4, 5] (fun x4 x5 wr => ∃ i : Nat, x5 = .int .i64 ((q : Int) + i) ∧ i ≤ n ∧ Hid (Gath wr w.heap.size (fun _ => True) x4 (rowsL i n F (ox + q) (oy + q))) ∧ Hid (Fr [] w wr)) (fun _ z _ => q + n - (intOf z).toNat)
  case atStart => exact ⟨0, by simp, by omega, Lib.hid (Gath.nil _ _ _), Lib.hid (Fr.refl _ _)⟩
  case round =>
    obtain ⟨i, rfl, hi, HG, Hf⟩ := hrel
    by_cases hlt : i < n
    · have hd : decide ((q : Int) + i < (q : Int) + n) = true := by simp; omega
      have hgy : (gridL m F ox oy)[(q + i)]? = some (rowL m F ox (oy + q + i)) := by
        have := HM.out
        have := HN.out
        rw [gridL_get (by omega)]; congr 2; omega
      obtain ⟨g, off, g2, off2, rc, rfl, lg, cg, hint, lg2, hrc⟩ := row_fit HL.out hgy (by rw [rowL_length]; omega)
      rw [rowL_length] at cg hint hrc
      have HI := Lib.hid (hint.fr Hf.out)
      have cg1 := (Hf.out.cell (p := ⟨g, off + (q + i), none⟩) lg (by simp)).trans cg
      have HB := Lib.hid (show g2 < wr.heap.size ∧ u4.ownBlock ≠ some g2 from ⟨by have := Hf.out.size; omega, fun e => by
        obtain ⟨vs, ho, _⟩ := HG.out
        have := owns_ge ho e
        omega⟩)
      have lg1 : g < wr.heap.size := by have := Hf.out.size; omega
      have b1 : (q : Int) + n ≤ rc := by have := HM.out; have := HN.out; omega
      clear hint cg lg lg2 hgy
      go_wp2_with (at_builtin; refine append_row (base := w.heap.size) (P := fun _ => True) (u := .slice (some ⟨g2, off2 + q, none⟩) n (rc - q)) (L := rowsL i n F (ox + q) (oy + q)) (r := rowL n F (ox + q) (oy + q + i)) rfl rfl rfl rfl ?g1 ?g2 ?g3 ?g4 ?g5 ?g6 ?g7 ?_)
      case g1 => exact HG.out.fr (by (repeat (first | exact Fr.refl _ _ | assumption | apply Fr.drewN | apply Fr.drew | apply Fr.alloc | refine Fr.setCell ?_ (Or.inr (by simp; try omega)) _)))
      case g2 => (repeat (first | rw [if_pos (by omega)] | rw [if_neg (by omega)] | rw [hp_drew] | rw [hp_drewN] | rw [hp_alloc_size] | rw [hp_setCell_size] | rw [hp_alloc] | rw [hp_setCell] | rw [Option.map_some] | rw [upd_cells] | rw [List.set_cons_zero] | rw [List.set_cons_succ] | rfl))
      case g3 =>
        refine IntsAt.fr (w := wr) ?_ (by (repeat (first | exact Fr.refl _ _ | assumption | apply Fr.drewN | apply Fr.drew | apply Fr.alloc | refine Fr.setCell ?_ (Or.inr (by simp; try omega)) _)))
        have h := HI.out.part (a := none) (i := q) (m := n) (c' := rc - q) (by rw [rowL_length]; have := HM.out; have := HN.out; omega)
        rw [rowL_slice (by have := HM.out; have := HN.out; omega)] at h
        exact h
      case g4 => show n ≤ rc - q; omega
      case g5 =>
        intro z hz
        have hz : g2 = z := by simpa [Value.ownBlock] using hz
        subst hz
        have := HB.out
        exact ⟨by rw [hp_alloc_size]; omega, trivial, this.2⟩
      case g6 => rw [rowsL_length]; omega
      case g7 => have h3 := Hf.out.size; rw [hp_alloc_size]; omega
      intro v8 w8 hg8 hF8 hloc8
      have HF8 := Lib.hid (show Fr [] w w8 from Fr.trans (Fr.trans0 Hf.out (by (repeat (first | exact Fr.refl _ _ | assumption | apply Fr.drewN | apply Fr.drew | apply Fr.alloc | refine Fr.setCell ?_ (Or.inr (by simp; try omega)) _)))) hF8 fun z hz => .inr (by
        obtain ⟨vs, ho, _⟩ := HG.out
        exact owns_ge ho (by simpa using hz)))
      have HG8 := Lib.hid (show Gath w8 w.heap.size (fun _ => True) v8 (rowsL (i + 1) n F (ox + q) (oy + q)) by rw [← rowsL_snoc]; exact hg8)
      clear hg8 hF8 hloc8
      go_wp2
      go_roundw
      case rel => exact ⟨i + 1, by go_num, by omega, HG8, HF8⟩
      case measure => simp [intOf]; omega
    · obtain rfl : i = n := by omega
      have hd : decide ((q : Int) + i < (q : Int) + i) = false := by simp
      go_wp2
      go_ret
      exact ⟨_, rfl, HG.out.rows, Hf.out⟩
end Go.Proofs.Ytppmnmheodimoaa
end

section
/- MemoDoubles: the walk. -/
namespace Go.Proofs.Ytppmnmheodimoaa
open Go Go.RowKit Go.Proofs.Rg Go.Proofs.Mp Go.Proofs.Hp Go.Proofs.Qs Go.Proofs.Ev
set_option linter.unusedVariables false
set_option linter.unusedSimpArgs false
theorem cost_three : ((List.range 2).all fun a => (List.range 7).all fun n => (List.range 4).all fun k => decide (n < k + 1 + (a + 2)) || decide (cost (a + 2) n (k + 1) + cost (a + 2) n k + cost (a + 2) (n - 1) k ≤ 88000)) = true := by decide +kernel
theorem cost_sum {lost n k : Nat} (h1 : 2 ≤ lost) (h2 : lost ≤ 3) (hn : n ≤ 6) (hk : k + 1 + lost ≤ n) : cost lost n (k + 1) + cost lost n k + cost lost (n - 1) k ≤ 88000 := by
  have h := cost_three
  simp only [List.all_eq_true, List.mem_range] at h
  have := h (lost - 2) (by omega) n (by omega) k (by omega)
  rw [show lost - 2 + 2 = lost by omega] at this
  simp only [Bool.or_eq_true, decide_eq_true_eq] at this
  rcases this with h | h
  · omega
  · exact h
/-- the trees that the steps of the doubling may add -/
theorem double_list {r : Rule} {ns : List K4} {id : Int} (k : Nat) (hg : GoodQ r.S ns) (hlen : ns.length ≤ 600) (hlv : lvl r.S (levs r.S ns) id ≤ 6) :
    ∃ L, room r.S ns L ∧ ∀ (n : Nat) (t : Tr), Is r.S ns n id t → lostOf (radius r.hood) ≤ n → n ≤ 6 ∧ (k ≤ n - lostOf (radius r.hood) → ∀ u ∈ need (gen r) (lostOf (radius r.hood)) n k t, u ∈ L) ∧
      (k + 1 ≤ n - lostOf (radius r.hood) → (∀ u ∈ need (gen r) (lostOf (radius r.hood)) n (k + 1) t, u ∈ L) ∧ ∀ u ∈ need (gen r) (lostOf (radius r.hood)) (n - 1) k (stp (gen r) n k t), u ∈ L) := by
  have hl := lost_le (radius_le r.hood).1 (radius_le r.hood).2
  by_cases hok : ∃ (n : Nat) (t : Tr), Is r.S ns n id t ∧ lostOf (radius r.hood) ≤ n
  · obtain ⟨n, t, hi, h1⟩ := hok
    have hn : n ≤ 6 := by have := hi.lvl hg; omega
    by_cases h2 : k + 1 ≤ n - lostOf (radius r.hood)
    · refine ⟨need (gen r) (lostOf (radius r.hood)) n (k + 1) t ++ need (gen r) (lostOf (radius r.hood)) n k t ++ need (gen r) (lostOf (radius r.hood)) (n - 1) k (stp (gen r) n k t), room.of_len ?_, fun m u hi2 h3 => ?_⟩
      · have := cost_sum hl.1 hl.2 hn (show k + 1 + lostOf (radius r.hood) ≤ n by omega)
        simp only [List.length_append, need_length]
        omega
      · obtain ⟨rfl, rfl⟩ := Is.same hg hi hi2
        exact ⟨hn, fun _ u hu => by simp [hu], fun _ => ⟨fun u hu => by simp [hu], fun u hu => by simp [hu]⟩⟩
    · by_cases h3 : k ≤ n - lostOf (radius r.hood)
      · refine ⟨need (gen r) (lostOf (radius r.hood)) n k t, room.of_len ?_, fun m u hi2 h4 => ?_⟩
        · have := cost_all hl.1 hl.2 hn (show k ≤ 4 by omega)
          rw [need_length]; omega
        · obtain ⟨rfl, rfl⟩ := Is.same hg hi hi2
          exact ⟨hn, fun _ u hu => hu, fun h => absurd h h2⟩
      · refine ⟨[], room.of_len (by simp; omega), fun m u hi2 h4 => ?_⟩
        obtain ⟨rfl, rfl⟩ := Is.same hg hi hi2
        exact ⟨hn, fun h => absurd h h3, fun h => absurd h h2⟩
  · exact ⟨[], room.of_len (by simp; omega), fun n t h1 h2 => absurd ⟨n, t, h1, h2⟩ hok⟩
/-- the centre of the cells of a step with k + 1 -/
theorem double_cells {r : Rule} (hR : rightR r = true) {n k q : Nat} {t : Tr} (hk : k + 1 + lostOf (radius r.hood) ≤ n) (hq : 2 ^ (n - 3) = q) :
    cellsL (n - 1) (stp (gen r) n (k + 1) t) = gridL (4 * q) (it (gen r) (2 ^ (k + 1)) (cell n t)) (p2 (n - 2)) (p2 (n - 2)) ∧
    cellsL (n - 2) (stp (gen r) (n - 1) k (stp (gen r) n k t)) = gridL (2 * q) (it (gen r) (2 ^ (k + 1)) (cell n t)) (p2 (n - 2) + q) (p2 (n - 2) + q) := by
  have hl := lost_le (radius_le r.hood).1 (radius_le r.hood).2
  have hm := margin (radius_le r.hood).1 (radius_le r.hood).2 (n := n - 1) (k := k) (by omega) (by omega)
  obtain ⟨n3, rfl⟩ : ∃ n3, n = n3 + 3 := ⟨n - 3, by omega⟩
  have hq : 2 ^ n3 = q := hq
  have e1 : 2 ^ (n3 + 3 - 1) = 4 * q := by rw [← hq, show n3 + 3 - 1 = n3 + 1 + 1 by omega, Nat.pow_succ, Nat.pow_succ]; omega
  have e2 : 2 ^ (n3 + 3 - 2) = 2 * q := by rw [← hq, show n3 + 3 - 2 = n3 + 1 by omega, Nat.pow_succ]; omega
  have e3 : p2 (n3 + 3 - 3) = (q : Int) := by rw [← hq]; simp [p2]
  constructor
  · unfold stp
    rw [cellsL_mk, e1]
  · rw [step_twice (gen_local hR) (by omega) (by rw [show n3 + 3 - 3 = n3 + 3 - 1 - 2 by omega]; exact hm), cellsL_mk, e2, e3]
end Go.Proofs.Ytppmnmheodimoaa
end
