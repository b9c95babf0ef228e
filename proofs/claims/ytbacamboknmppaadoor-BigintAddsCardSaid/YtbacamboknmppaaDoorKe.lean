/- The reference of big integers: minus. -/
import Derived.Test.YtbacamboknmppaaDoorKd
namespace Go.Proofs.YtbacamboknmppaaDoor
open Go Go.RowKit Go.Proofs.Rg Go.Proofs.Hp Go.Proofs.Bn
set_option linter.unusedVariables false
set_option linter.unusedSimpArgs false
set_option maxHeartbeats 4000000 in
set_option maxRecDepth 100000 in
theorem rminus_calls {w : World} {da db : List Nat} {va vb : Value} (ha : Reads w va da.length 1 (i64s da)) (hb : Reads w vb db.length 1 (i64s db)) (hDa : Dig 256 da) (hDb : Dig 256 db) (hle : db.length ≤ da.length) (hvv : val 256 db ≤ val 256 da) (hla : da.length ≤ 100000) :
    Calls Tryd.prog 52 #[va, vb] w (ListPost w (w.heap.size ≤ ·) (dg 256 (val 256 da - val 256 db))) := by
  have hdb := fun w1 (hf : Fr [] w w1) i => rdigit_calls (hb.fr hf) (by omega) i
  have Hdb := Lib.hid hdb
  obtain ⟨_, a, ac, rfl, haa⟩ := ha
  obtain ⟨_, b, bc, rfl, hbb⟩ := hb
  have Ha := Lib.hid haa
  have HDa := Lib.hid hDa
  have HDb := Lib.hid hDb
  have Hvv := Lib.hid hvv
  obtain ⟨n, hn⟩ : ∃ n, da.length = n := ⟨_, rfl⟩
  have Hn := Lib.hid hn
  rw [hn] at Ha hle hla ⊢
  have Hle := Lib.hid hle
  clear hdb haa hbb hDa hDb hvv hn hle
  go_enter Tryd.func52, Tryd.ntmps52
  go_wp2_with fail
  go_loopw [5, 6, 7] (fun x5 x6 x7 wl => ∃ (i c : Nat) (L : List Nat), x6 = .int .i64 c ∧ x7 = .int .i64 i ∧ i ≤ n ∧ c ≤ 1 ∧ Dig 256 L ∧ L.length = i ∧ val 256 L + val 256 (db.take i) = val 256 (da.take i) + 256 ^ i * c ∧ wl.ownsRow w.heap.size 3 1 x5 L.length (i64s L) ∧ Fr [] w wl) (fun _ _ x7 _ => n - (intOf x7).toNat)
  case atStart => exact ⟨0, 0, [], rfl, rfl, by omega, by omega, Dig.nil, rfl, by simp [val], World.ownsRow_nil _ _ _ _, Fr.refl _ _⟩
  case round =>
    obtain ⟨i, c, L, rfl, rfl, hi, hc, hD, hL, hv, ho, hf⟩ := hrel
    obtain ⟨oa, oc, rfl, hoa, hon⟩ := owns_form ho
    have HDL := Lib.hid hD
    have HL := Lib.hid hL
    have Hv := Lib.hid hv
    have Ho := Lib.hid ho
    have Hf := Lib.hid hf
    clear hoa hon hD hL hv ho
    by_cases hin : i < n
    · obtain ⟨g1, o1, rfl, hg1, hc1⟩ := Ha.out (by omega)
      have e1 := (hf.cell (p := ⟨g1, o1 + i, none⟩) hg1 (by simp)).trans (hc1 i _ (i64s_get (by have := Hn.out; omega)))
      have hx : da.getD i 0 < 256 := HDa.out.getD (by omega) i
      have hy : db.getD i 0 < 256 := HDb.out.getD (by omega) i
      have Hta := Lib.hid (And.intro (val_take_succ 256 da i) (val_take_succ 256 db i))
      have Hdb2 := Lib.hid (fun w1 hf => Hdb.out w1 hf i)
      clear hc1 hf
      generalize da.getD i 0 = x at *
      generalize db.getD i 0 = y at *
      obtain ⟨d, c2, hd1, hd2, hd3, hd4⟩ : ∃ d c2 : Nat, d < 256 ∧ c2 ≤ 1 ∧ d + y + c = x + 256 * c2 ∧ (c2 = 1 ↔ x < y + c) := by
        by_cases h : x < y + c
        · exact ⟨x + 256 - y - c, 1, by omega, by omega, by omega, by omega⟩
        · exact ⟨x - y - c, 0, by omega, by omega, by omega, by omega⟩
      have Hst := Lib.hid (diff_step Hv.out hd3)
      have hneg : decide ((x : Int) - y - c < 0) = decide (c2 = 1) := by rw [decide_eq_decide]; omega
      have Hd := Lib.hid (And.intro hd3 hd4)
      clear hd4
      go_wp2_with fail
      refine wp_region_segs [([0, 1, 2, 3, 4, 5, 6], [3]), ([7, 8, 9, 10], [])] (by kernel_rfl) (by kernel_rfl) ?_
      (simp only [wpSegs, pick, Array.getD_eq_getD_getElem?, List.getElem?_toArray, List.getElem?_cons_succ, List.getElem?_cons_zero, Option.getD_some])
      go_wp2_with fail
      refine (Hdb2.out _ (by have := Hf.out; (repeat (first | exact Fr.refl _ _ | assumption | apply Fr.drewN | apply Fr.drew | apply Fr.alloc | refine Fr.setCell ?_ (Or.inr (by simp; try omega)) _)))).mono ?_
      rintro e w2 ⟨rfl, rfl⟩
      go_wp2
      refine Mid.intro ⟨⟨again_cell (T := 3) rfl rfl rfl Tryd.underlying3 rfl e1 rfl, trivial⟩, ?_⟩
      go_wp2
      refine Mid.intro ⟨trivial, Strict.intro rfl ?_⟩
      rcases Nat.lt_or_ge c2 1 with h1 | h1
      · obtain rfl : c2 = 0 := by omega
        have Ed : ((x : Int) - y - c) = (d : Nat) := by omega
        have hng : decide ((x : Int) - y - c < 0) = false := by rw [decide_eq_false_iff_not]; omega
        clear hneg hd3
        have hsz9 := Hf.out.size
        have Hf0 := Lib.hid (show Fr [] w _ from Hf.out.drewN 1)
        have Ho1 := Lib.hid (owns_of_block (w' := wr.drewN 1) Ho.out (fun g _ => rfl))
        go_wp2_with (at_builtin; refine append_i64 (n := L.length) (base := w.heap.size) (xs := (i64s L)) (y := (d : Int)) rfl rfl rfl ?e1 rfl ?e2 ?e3 ?e4 ?_)
        case e1 => exact owns_of_block Ho1.out fun y hy => heap_alloc_else _ _ _ (owns_lt Ho1.out hy)
        case e2 => first | (first | (rw [hp_alloc, if_pos rfl]; done) | exact (Array.getElem?_eq_some_iff.1 ((hp_alloc _ _ _).trans (if_pos rfl))).2 | (simp only [hp_drew, hp_drewN]; rw [hp_alloc, if_pos rfl]; done)) | (repeat (first | rw [if_pos (by omega)] | rw [if_neg (by omega)] | rw [hp_drew] | rw [hp_drewN] | rw [hp_alloc_size] | rw [hp_setCell_size] | rw [hp_alloc] | rw [hp_setCell] | rw [Option.map_some] | rw [upd_cells] | rw [List.set_cons_zero] | rw [List.set_cons_succ] | rfl))
        case e3 => (have := HL.out; omega)
        case e4 => have := Hf0.out.size; (first | omega | (simp only [hp_drew, hp_drewN, hp_alloc_size]; omega) | (simp; omega))
        intro g2 cap w9 hown1 hW1 hF1 hloc1 hg1
        rw [i64s_snoc] at hown1
        have Hown1 := Lib.hid hown1
        have Hf9 := Lib.hid (fr_append Hf0.out Ho1.out hF1)
        clear hown1 hW1 hF1 hloc1
        go_wp2
        go_roundw
        case rel => exact ⟨i + 1, 0, L ++ [d], by go_num, by go_num, by omega, by omega, HDL.out.append (fun z hz => by rw [List.mem_singleton] at hz; omega), by rw [List.length_append, HL.out]; rfl, by rw [val_snoc, HL.out, Hta.out.1, Hta.out.2, Nat.pow_succ]; exact Hst.out, by rw [List.length_append]; exact Hown1.out, Hf9.out⟩
        case measure => simp [intOf]; omega
      · obtain rfl : c2 = 1 := by omega
        have Ed : ((x : Int) - y - c + 256) = (d : Nat) := by omega
        have hng : decide ((x : Int) - y - c < 0) = true := by rw [decide_eq_true_eq]; omega
        clear hneg hd3
        have hsz9 := Hf.out.size
        have Hf0 := Lib.hid (show Fr [] w _ from Hf.out.drewN 1)
        have Ho1 := Lib.hid (owns_of_block (w' := wr.drewN 1) Ho.out (fun g _ => rfl))
        go_wp2_with (at_builtin; refine append_i64 (n := L.length) (base := w.heap.size) (xs := (i64s L)) (y := (d : Int)) rfl rfl rfl ?e1 rfl ?e2 ?e3 ?e4 ?_)
        case e1 => exact owns_of_block Ho1.out fun y hy => heap_alloc_else _ _ _ (owns_lt Ho1.out hy)
        case e2 => first | (first | (rw [hp_alloc, if_pos rfl]; done) | exact (Array.getElem?_eq_some_iff.1 ((hp_alloc _ _ _).trans (if_pos rfl))).2 | (simp only [hp_drew, hp_drewN]; rw [hp_alloc, if_pos rfl]; done)) | (repeat (first | rw [if_pos (by omega)] | rw [if_neg (by omega)] | rw [hp_drew] | rw [hp_drewN] | rw [hp_alloc_size] | rw [hp_setCell_size] | rw [hp_alloc] | rw [hp_setCell] | rw [Option.map_some] | rw [upd_cells] | rw [List.set_cons_zero] | rw [List.set_cons_succ] | rfl))
        case e3 => (have := HL.out; omega)
        case e4 => have := Hf0.out.size; (first | omega | (simp only [hp_drew, hp_drewN, hp_alloc_size]; omega) | (simp; omega))
        intro g2 cap w9 hown1 hW1 hF1 hloc1 hg1
        rw [i64s_snoc] at hown1
        have Hown1 := Lib.hid hown1
        have Hf9 := Lib.hid (fr_append Hf0.out Ho1.out hF1)
        clear hown1 hW1 hF1 hloc1
        go_wp2
        go_roundw
        case rel => exact ⟨i + 1, 1, L ++ [d], by go_num, by go_num, by omega, by omega, HDL.out.append (fun z hz => by rw [List.mem_singleton] at hz; omega), by rw [List.length_append, HL.out]; rfl, by rw [val_snoc, HL.out, Hta.out.1, Hta.out.2, Nat.pow_succ]; exact Hst.out, by rw [List.length_append]; exact Hown1.out, Hf9.out⟩
        case measure => simp [intOf]; omega
    · obtain rfl : i = n := by omega
      have hfin : val 256 L = val 256 da - val 256 db := by
        have hv := Hv.out
        have hll := val_lt HDL.out
        have h1 := Hle.out
        have h2 := Hvv.out
        rw [List.take_of_length_le (by omega), List.take_of_length_le (by have := Hn.out; omega)] at hv
        rw [HL.out] at hll
        rcases Nat.lt_or_ge c 1 with h | h
        · obtain rfl : c = 0 := by omega
          omega
        · obtain rfl : c = 1 := by omega
          omega
      have ht := trim_calls (Reads.of_owns Ho.out) HDL.out (by have := HL.out; omega) (owns_cap Ho.out) (A := fun g => w.heap.size ≤ g) (fun g hg => owns_ge Ho.out hg)
      rw [hfin] at ht
      have Ht := Lib.hid ht
      clear ht hfin hf
      go_wp2_with fail
      refine Ht.out.mono ?_
      rintro e w4 ⟨ra, rc, hlo, rfl, hr, hf⟩
      have Hf5 := Lib.hid (Hf.out.trans0 hf)
      have Hr := Lib.hid hr
      have Hlo := Lib.hid hlo
      clear hf hr hlo
      go_wp2
      go_ret
      exact ⟨ra, rc, Hlo.out, rfl, Hr.out, Hf5.out⟩
end Go.Proofs.YtbacamboknmppaaDoor
