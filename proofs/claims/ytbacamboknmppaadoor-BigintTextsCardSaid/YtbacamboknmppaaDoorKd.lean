/- The reference of big integers: less, plus, minus. -/
import Derived.Test.YtbacamboknmppaaDoorKc
namespace Go.Proofs.YtbacamboknmppaaDoor
open Go Go.RowKit Go.Proofs.Rg Go.Proofs.Hp Go.Proofs.Bn
set_option linter.unusedVariables false
set_option linter.unusedSimpArgs false
set_option maxHeartbeats 4000000 in
set_option maxRecDepth 100000 in
theorem less_calls {w : World} {da db : List Nat} {va vb : Value} (ha : Reads w va da.length 1 (i64s da)) (hb : Reads w vb db.length 1 (i64s db)) (hDa : Dig 256 da) (hDb : Dig 256 db) (ca : Canon da) (cb : Canon db) (hla : da.length ≤ 1000000) (hlb : db.length ≤ 1000000) :
    Calls Tryd.prog 58 #[va, vb] w fun e w' => e = .returned (.bool (decide (val 256 da < val 256 db))) ∧ Drew w w' := by
  obtain ⟨_, a, ac, rfl, haa⟩ := ha
  obtain ⟨_, b, bc, rfl, hbb⟩ := hb
  have Ha := Lib.hid haa
  have Hb := Lib.hid hbb
  clear haa hbb
  obtain ⟨r, hr0⟩ : ∃ r, decide (val 256 da < val 256 db) = r := ⟨_, rfl⟩
  rw [hr0]
  have Hr0 := Lib.hid hr0
  clear hr0
  by_cases hne : da.length = db.length
  rotate_left
  · have hd : ((da.length : Int) != (db.length : Int)) = true := by simp; omega
    have hc : r = decide (da.length < db.length) := by
      rw [← Hr0.out]
      by_cases hlt : da.length < db.length
      · rw [decide_eq_true hlt, decide_eq_true (val_lt_len (by omega) hDa hDb cb hlt)]
      · have := val_lt_len (by omega) hDb hDa ca (by omega)
        rw [decide_eq_false hlt, decide_eq_false (by omega)]
    obtain ⟨q, hq⟩ : ∃ q, decide (da.length < db.length) = q := ⟨_, rfl⟩
    rw [hq] at hc
    have hq2 : decide ((da.length : Int) < db.length) = q := by rw [← hq, decide_eq_decide]; omega
    subst hc
    clear hDa hDb ca cb hne
    go_enter Tryd.func58, Tryd.ntmps58
    go_wp2
    go_ret
    exact ⟨rfl, Drew.refl _⟩
  · have hd : ((da.length : Int) != (db.length : Int)) = false := by simp; omega
    have HDa := Lib.hid hDa
    have HDb := Lib.hid hDb
    have Hne := Lib.hid hne
    clear hDa hDb ca cb hne
    go_enter Tryd.func58, Tryd.ntmps58
    go_wp2
    go_loopw [5] (fun x wr => ∃ (k : Nat) (z : Int), x = .int .i64 z ∧ z = (k : Int) - 1 ∧ k ≤ da.length ∧ da.drop k = db.drop k ∧ Drew w wr) (fun x _ => (intOf x + 1).toNat)
    case atStart => exact ⟨da.length, _, rfl, rfl, Nat.le_refl _, by rw [List.drop_length, Hne.out, List.drop_length], Drew.refl _⟩
    case round =>
      obtain ⟨k, z, rfl, hz, hk, hdr, m, rfl⟩ := hrel
      have Hdr := Lib.hid hdr
      clear hdr
      cases k with
      | zero =>
        have hz' : z = -1 := by omega
        subst hz'
        clear hz
        have heq := Hdr.out
        rw [List.drop_zero, List.drop_zero] at heq
        have hc : r = false := by rw [← Hr0.out, heq]; simp
        have Hc := Lib.hid hc
        clear hc heq
        go_wp2
        go_ret
        exact ⟨by rw [Hc.out]; rfl, m, rfl⟩
      | succ k =>
        obtain rfl : z = (k : Int) := by omega
        clear hz
        have hkb : k < db.length := by have := Hne.out; omega
        obtain ⟨g1, off1, rfl, hg1, hc1⟩ := Ha.out (by omega)
        obtain ⟨g2, off2, rfl, hg2, hc2⟩ := Hb.out (by omega)
        have e1 := hc1 k _ (i64s_get (by omega))
        have e2 := hc2 k _ (i64s_get hkb)
        have hxl := HDa.out.getD (by omega) k
        have hyl := HDb.out.getD (by omega) k
        have htop := fun h => val_lt_top (B := 256) (by omega) HDa.out HDb.out (i := k) (by omega) Hne.out Hdr.out h
        have htop2 := fun h => val_lt_top (B := 256) (by omega) HDb.out HDa.out (i := k) (by omega) Hne.out.symm Hdr.out.symm h
        have hde := drop_eq_succ (i := k) (by omega) Hne.out Hdr.out
        have Htop := Lib.hid htop
        have Htop2 := Lib.hid htop2
        have Hde := Lib.hid hde
        clear hc1 hc2 htop htop2 hde hxl hyl
        generalize da.getD k 0 = x at *
        generalize db.getD k 0 = y at *
        by_cases hxy : x = y
        · subst hxy
          have hn : ((x : Int) != x) = false := by simp
          go_wp2
          (refine wp_region_text (by kernel_rfl) (by kernel_rfl) ?_)
          go_wp2
          refine Strict.intro rfl ?_
          go_wp2
          go_roundw
          case rel => exact ⟨k, _, rfl, rfl, by omega, Hde.out (by first | rfl | trivial), m + 1, rfl⟩
          case measure => first | (simp [intOf]; done) | (simp [intOf]; omega)
        · have hn : ((x : Int) != y) = true := by rw [bne_iff_ne]; omega
          have hc : r = decide ((x : Int) < y) := by
            rw [← Hr0.out]
            by_cases h : x < y
            · rw [decide_eq_true (Htop.out h), decide_eq_true (by omega)]
            · have := Htop2.out (by omega)
              rw [decide_eq_false (by omega), decide_eq_false (by omega)]
          obtain ⟨q, hq⟩ : ∃ q, decide ((x : Int) < y) = q := ⟨_, rfl⟩
          rw [hq] at hc
          have hq2 : decide (x < y) = q := by rw [← hq, decide_eq_decide]; omega
          have Hc := Lib.hid hc
          clear hc hxy
          go_wp2
          (refine wp_region_text (by kernel_rfl) (by kernel_rfl) ?_)
          go_wp2
          refine Strict.intro rfl ?_
          go_wp2
          (refine wp_region_text (by kernel_rfl) (by kernel_rfl) ?_)
          go_wp2
          refine Strict.intro rfl ?_
          go_wp2
          go_ret
          exact ⟨by rw [Hc.out]; rfl, m + 1 + 1, rfl⟩
/-- a list of bytes with a value -/
def ListVal (w : World) (A : Nat → Prop) (V n : Nat) (e : Ending) (w' : World) : Prop := ∃ L, Dig 256 L ∧ val 256 L = V ∧ L.length ≤ n ∧ ListPost w A L e w'
set_option maxHeartbeats 4000000 in
set_option maxRecDepth 100000 in
theorem rplus_calls {w : World} {da db : List Nat} {va vb : Value} (ha : Reads w va da.length 1 (i64s da)) (hb : Reads w vb db.length 1 (i64s db)) (hDa : Dig 256 da) (hDb : Dig 256 db) (hla : da.length ≤ 100000) (hlb : db.length ≤ 100000) :
    Calls Tryd.prog 46 #[va, vb] w (ListVal w (w.heap.size ≤ ·) (val 256 da + val 256 db) (max da.length db.length + 1)) := by
  have hda := fun w1 (hf : Fr [] w w1) i => rdigit_calls (ha.fr hf) (by omega) i
  have hdb := fun w1 (hf : Fr [] w w1) i => rdigit_calls (hb.fr hf) (by omega) i
  have Hda := Lib.hid hda
  have Hdb := Lib.hid hdb
  obtain ⟨_, a, ac, rfl, haa⟩ := ha
  obtain ⟨_, b, bc, rfl, hbb⟩ := hb
  have HDa := Lib.hid hDa
  have HDb := Lib.hid hDb
  obtain ⟨M, hM⟩ : ∃ M, max da.length db.length = M := ⟨_, rfl⟩
  have hM1 : da.length ≤ M := by omega
  have hM3 : M ≤ 100000 := by omega
  have hM2 : db.length ≤ M := by omega
  have HM := Lib.hid hM
  rw [hM]
  clear hda hdb haa hbb hDa hDb hM
  go_enter Tryd.func46, Tryd.ntmps46
  go_wp2_with fail
  go_loopw [5, 6, 7] (fun x5 x6 x7 wl => ∃ (i c : Nat) (L : List Nat), x6 = .int .i64 c ∧ x7 = .int .i64 i ∧ i ≤ M + 1 ∧ c ≤ 1 ∧ (i = M + 1 → c = 0) ∧ Dig 256 L ∧ L.length = i ∧ val 256 L + 256 ^ i * c = val 256 (da.take i) + val 256 (db.take i) ∧ wl.ownsRow w.heap.size 3 1 x5 L.length (i64s L) ∧ Fr [] w wl) (fun _ _ x7 _ => M + 1 - (intOf x7).toNat)
  case atStart => exact ⟨0, 0, [], rfl, rfl, by omega, by omega, by omega, Dig.nil, rfl, by simp [val], World.ownsRow_nil _ _ _ _, Fr.refl _ _⟩
  case round =>
    obtain ⟨i, c, L, rfl, rfl, hi, hc, hcz, hD, hL, hv, ho, hf⟩ := hrel
    obtain ⟨oa, oc, rfl, hoa, hon⟩ := owns_form ho
    have HDL := Lib.hid hD
    have HL := Lib.hid hL
    have Hv := Lib.hid hv
    have Ho := Lib.hid ho
    have Hf := Lib.hid hf
    have Hcz := Lib.hid hcz
    clear hoa hon hD hL hv ho hf hcz
    by_cases hgo : i < da.length ∨ i < db.length ∨ 0 < c
    · obtain ⟨g1, hg1⟩ : ∃ g1, decide ((i : Int) < da.length) = g1 := ⟨_, rfl⟩
      obtain ⟨g2, hg2⟩ : ∃ g2, decide ((i : Int) < db.length) = g2 := ⟨_, rfl⟩
      obtain ⟨g3, hg3⟩ : ∃ g3, decide (0 < c) = g3 := ⟨_, rfl⟩
      have hg1' : decide (i < da.length) = g1 := by rw [← hg1, decide_eq_decide]; omega
      have hg2' : decide (i < db.length) = g2 := by rw [← hg2, decide_eq_decide]; omega
      have hb3 : g1 = true ∨ (g1 = false ∧ g2 = true) ∨ (g1 = false ∧ g2 = false ∧ g3 = true) := by
        cases g1 <;> cases g2 <;> cases g3 <;> simp_all <;> omega
      have him : i ≤ M := by
        rcases Nat.lt_or_ge M i with h | h
        · have := Hcz.out (by omega); omega
        · exact h
      have hx : da.getD i 0 < 256 := HDa.out.getD (by omega) i
      have hy : db.getD i 0 < 256 := HDb.out.getD (by omega) i
      have hxm : da.length ≤ i → da.getD i 0 = 0 := fun h => by rw [List.getD_eq_getElem?_getD, List.getElem?_eq_none h]; rfl
      have hym : db.length ≤ i → db.getD i 0 = 0 := fun h => by rw [List.getD_eq_getElem?_getD, List.getElem?_eq_none h]; rfl
      have Hxm := Lib.hid (And.intro hxm hym)
      have hta := val_take_succ 256 da i
      have htb := val_take_succ 256 db i
      have Hta := Lib.hid (And.intro hta htb)
      have Hda2 := Lib.hid (fun w1 hf => Hda.out w1 hf i)
      have Hdb2 := Lib.hid (fun w1 hf => Hdb.out w1 hf i)
      have Hgo := Lib.hid hgo
      clear hxm hym hta htb hgo
      generalize da.getD i 0 = x at *
      generalize db.getD i 0 = y at *
      obtain ⟨s, hs⟩ : ∃ s, s = c + x + y := ⟨_, rfl⟩
      have Es : ((x : Int) + y + c) = (s : Nat) := by omega
      have hs9 : s < 1000 := by omega
      obtain ⟨d, hd⟩ : ∃ d, s % 256 = d := ⟨_, rfl⟩
      have Ed : ((s : Int) % 256) = (d : Nat) := by omega
      have Hst := Lib.hid (sum_step (B := 256) (by omega) Hv.out hs)
      have Hs := Lib.hid (And.intro hs hd)
      clear hs hd
      rcases hb3 with rfl | ⟨rfl, rfl⟩ | ⟨rfl, rfl, rfl⟩
      all_goals
        go_wp2_with fail
        refine (Hda2.out _ Hf.out).mono ?_
        rintro e w2 ⟨rfl, rfl⟩
        go_wp2_with fail
        refine (Hdb2.out _ Hf.out).mono ?_
        rintro e w2 ⟨rfl, rfl⟩
        go_wp2_with (at_builtin; refine append_i64 (n := L.length) (base := w.heap.size) (xs := (i64s L)) (y := (d : Int)) rfl rfl rfl ?e1 rfl ?e2 ?e3 ?e4 ?_)
        case e1 => exact owns_of_block Ho.out fun y hy => heap_alloc_else _ _ _ (owns_lt Ho.out hy)
        case e2 => first | (first | (rw [hp_alloc, if_pos rfl]; done) | exact (Array.getElem?_eq_some_iff.1 ((hp_alloc _ _ _).trans (if_pos rfl))).2 | (simp only [hp_drew, hp_drewN]; rw [hp_alloc, if_pos rfl]; done)) | (repeat (first | rw [if_pos (by omega)] | rw [if_neg (by omega)] | rw [hp_drew] | rw [hp_drewN] | rw [hp_alloc_size] | rw [hp_setCell_size] | rw [hp_alloc] | rw [hp_setCell] | rw [Option.map_some] | rw [upd_cells] | rw [List.set_cons_zero] | rw [List.set_cons_succ] | rfl))
        case e3 => (have := HL.out; omega)
        case e4 => have := Hf.out.size; (first | omega | (simp only [hp_drew, hp_drewN, hp_alloc_size]; omega) | (simp; omega))
        intro g2 cap w9 hown1 hW1 hF1 hloc1 hg1
        rw [i64s_snoc] at hown1
        have Hown1 := Lib.hid hown1
        have Hf9 := Lib.hid (fr_append Hf.out Ho.out hF1)
        clear hown1 hW1 hF1 hloc1
        go_wp2
        go_roundw
        case rel =>
          have hst := Hst.out
          rw [Hs.out.2] at hst
          refine ⟨i + 1, s / 256, L ++ [d], by go_num, by go_num, by omega, by omega, fun h => ?_, HDL.out.append (fun z hz => by rw [List.mem_singleton] at hz; have := Hs.out; omega), by rw [List.length_append, HL.out]; rfl, ?_, by rw [List.length_append]; exact Hown1.out, Hf9.out⟩
          · have h1 := Hxm.out.1 (by omega)
            have h2 := Hxm.out.2 (by omega)
            have := Hs.out
            omega
          · rw [val_snoc, HL.out, Hta.out.1, Hta.out.2, Nat.pow_succ]
            exact hst
        case measure => simp [intOf]; omega
    · have hc0 : c = 0 := by omega
      have hg1 : decide ((i : Int) < da.length) = false := by rw [decide_eq_false_iff_not]; omega
      have hg2 : decide ((i : Int) < db.length) = false := by rw [decide_eq_false_iff_not]; omega
      have hg1' : decide (i < da.length) = false := by rw [decide_eq_false_iff_not]; omega
      have hg2' : decide (i < db.length) = false := by rw [decide_eq_false_iff_not]; omega
      have hv := Hv.out
      rw [List.take_of_length_le (by omega), List.take_of_length_le (by omega), hc0, Nat.mul_zero, Nat.add_zero] at hv
      have Hv2 := Lib.hid hv
      subst hc0
      clear hv hgo
      go_wp2
      go_ret
      exact ⟨L, HDL.out, Hv2.out, by rw [HL.out]; exact hi, oa, oc, ⟨owns_cap Ho.out, fun g hg => owns_ge Ho.out hg⟩, rfl, Reads.of_owns Ho.out, Hf.out⟩
end Go.Proofs.YtbacamboknmppaaDoor
