/- SweepKeeps: what the law's function returns. -/
import Derived.Test.YtgeomalefpjfdaaYb
namespace Go.Proofs.Qs
theorem sweep_again {s : Int} {ns Q : List K4} {T : List Int} {roots : List Int} {m : List Bool} (hg : GoodQ s ns) (hm : marks s ns roots = some m) (hT : (sw s ns m ns.length).1 = T) (hQ : (sw s ns m ns.length).2 = Q) :
    GoodQ s Q ∧ (∃ m2, marks s Q (roots.map (geti T)) = some m2 ∧ (sw s Q m2 Q.length).2 = Q ∧ (roots.map (geti T)).map (geti (sw s Q m2 Q.length).1) = roots.map (geti T)) ∧
      ∀ r ∈ roots, Alk s ns r s Q (geti T r) ∧ lvl s (levs s ns) r = lvl s (levs s Q) (geti T r) := by
  have hM := marks_marked hg hm
  obtain ⟨hN, _⟩ := sw_named hg hM.down ns.length (Nat.le_refl _)
  rw [hT, hQ] at hN
  have hkn : ∀ r ∈ roots, Kn s Q (geti T r) ∧ tr s Q (geti T r) = tr s ns r := fun r hr => by
    obtain ⟨h1, h2⟩ := hM.root r hr
    exact hN.tree r h1.1 h1.2 (.inr h2)
  refine ⟨hN.good, ?_, fun r hr => ?_⟩
  · cases h2 : marks s Q (roots.map (geti T)) with
    | none =>
      exfalso
      obtain ⟨r, hr, hno⟩ := marks_none.1 h2
      obtain ⟨r0, h0, rfl⟩ := List.mem_map.1 hr
      exact hno (hkn r0 h0).1
    | some m2 =>
      have hM2 := marks_marked hN.good h2
      have hag : ∀ o, o < Q.length → at' m2 (s + (o : Nat)) = true := by
        have := sw_again hg hM (m2 := m2) (by rw [hT, hQ]; exact hM2)
        rwa [hQ] at this
      obtain ⟨a1, a2⟩ := sw_all hN.good hag Q.length (Nat.le_refl _)
      rw [List.take_length] at a1
      refine ⟨m2, rfl, a1, ?_⟩
      rw [List.map_map]
      refine List.map_congr_left fun r hr => ?_
      obtain ⟨k1, _⟩ := hkn r hr
      exact a2 _ k1.1 k1.2
  · obtain ⟨h1, h2⟩ := hkn r hr
    have hk := (hM.root r hr).1
    exact ⟨⟨hk, h1, h2.symm⟩, lvl_of_tr hg hN.good hk h1 h2.symm⟩
end Go.Proofs.Qs
namespace Go.Proofs.Ytgeomalefpjfdaa
open Go Go.RowKit Go.Proofs.Rg Go.Proofs.Mp Go.Proofs.Hp Go.Proofs.Qs
set_option linter.unusedVariables false
set_option maxHeartbeats 16000000 in
set_option maxRecDepth 100000 in
theorem SweepKeeps_calls {w : World} {s : Int} {ns : List K4} {v rv : Value} {roots : List Int} (hv : Reads w v ns.length 4 (flat ns)) (hr : Reads w rv roots.length 1 (i64s roots)) :
    Calls Try.prog 5 #[.agg #[.int .i64 s, v], rv] w fun e w' => e = .returned (.bool true) ∧ Fr [] w w' := by
  have hvk := hv
  have hrk := hr
  obtain ⟨_, a, c, rfl, _⟩ := hv
  obtain ⟨_, ra, rc, rfl, _⟩ := hr
  have Hv := Lib.hid hvk
  have Hr := Lib.hid hrk
  clear hvk hrk
  by_cases hg : ns.length ≤ 200 ∧ GoodQ s ns
  rotate_left
  · have Hg := Lib.hid hg
    clear hg
    go_enter Try.func5, Try.ntmps5
    go_wp2_with fail
    refine (load_calls (s := s) (Hv.out.fr (by (repeat (first | exact Fr.refl _ _ | assumption | apply Fr.drewN | apply Fr.drew | apply Fr.alloc | refine Fr.setCell ?_ (Or.inr (by simp; try omega)) _))))).mono ?_
    rintro e w1 ⟨_, h1⟩
    obtain ⟨rfl, hf⟩ := h1 Hg.out
    have Hf := Lib.hid (Fr.trans0 (by (repeat (first | exact Fr.refl _ _ | assumption | apply Fr.drewN | apply Fr.drew | apply Fr.alloc | refine Fr.setCell ?_ (Or.inr (by simp; try omega)) _)) : Fr [] w _) hf)
    clear h1 hf
    go_wp2_with fail
    refine (alive_calls _).mono ?_
    rintro e w2 ⟨rfl, hf⟩
    have Hf2 := Lib.hid (Hf.out.trans0 (Fr.trans0 (by (repeat (first | exact Fr.refl _ _ | assumption | apply Fr.drewN | apply Fr.drew | apply Fr.alloc | refine Fr.setCell ?_ (Or.inr (by simp; try omega)) _)) : Fr [] w1 _) hf))
    clear hf
    go_wp2
    go_ret
    exact ⟨rfl, Hf2.out⟩
  have Hg := Lib.hid hg
  clear hg
  by_cases hl : 100 < roots.length
  · have hd : decide ((100 : Int) < ↑roots.length) = true := by simp; omega
    have hd2 : decide (100 < roots.length) = true := by simpa using hl
    clear hl
    go_enter Try.func5, Try.ntmps5
    go_wp2_with fail
    refine (load_calls (s := s) (Hv.out.fr (by (repeat (first | exact Fr.refl _ _ | assumption | apply Fr.drewN | apply Fr.drew | apply Fr.alloc | refine Fr.setCell ?_ (Or.inr (by simp; try omega)) _))))).mono ?_
    rintro e w1 ⟨h1, _⟩
    obtain ⟨b, F, rfl, _, hf, _⟩ := h1 Hg.out
    have Hf := Lib.hid (Fr.trans0 (by (repeat (first | exact Fr.refl _ _ | assumption | apply Fr.drewN | apply Fr.drew | apply Fr.alloc | refine Fr.setCell ?_ (Or.inr (by simp; try omega)) _)) : Fr [] w _) hf)
    clear h1 hf
    go_wp2_with fail
    refine (alive_calls _).mono ?_
    rintro e w2 ⟨rfl, hf⟩
    have Hf2 := Lib.hid (Hf.out.trans0 (Fr.trans0 (by (repeat (first | exact Fr.refl _ _ | assumption | apply Fr.drewN | apply Fr.drew | apply Fr.alloc | refine Fr.setCell ?_ (Or.inr (by simp; try omega)) _)) : Fr [] w1 _) hf))
    clear hf
    go_wp2
    go_ret
    exact ⟨rfl, Hf2.out⟩
  have hd : decide ((100 : Int) < ↑roots.length) = false := by simp; omega
  have hd2 : decide (100 < roots.length) = false := by simpa using hl
  have HL := Lib.hid hl
  clear hl
  go_enter Try.func5, Try.ntmps5
  go_wp2_with fail
  refine (load_calls (s := s) (Hv.out.fr (by (repeat (first | exact Fr.refl _ _ | assumption | apply Fr.drewN | apply Fr.drew | apply Fr.alloc | refine Fr.setCell ?_ (Or.inr (by simp; try omega)) _))))).mono ?_
  rintro e w1 ⟨h1, _⟩
  obtain ⟨b, F, rfl, hS, hf, _⟩ := h1 Hg.out
  have hb := (hf.block w.heap.size (by simp) (by simp)).trans (show _ = some (.cells #[.int .i64 s, .slice a ns.length c] 24 (0, 0)) by (repeat (first | rw [if_pos (by omega)] | rw [if_neg (by omega)] | rw [hp_drew] | rw [hp_drewN] | rw [hp_alloc_size] | rw [hp_setCell_size] | rw [hp_alloc] | rw [hp_setCell] | rw [Option.map_some] | rw [upd_cells] | rw [List.set_cons_zero] | rw [List.set_cons_succ] | rfl)))
  have Hb1 := Lib.hid hb
  have HS1 := Lib.hid hS
  have Hf1 := Lib.hid (Fr.trans0 (by (repeat (first | exact Fr.refl _ _ | assumption | apply Fr.drewN | apply Fr.drew | apply Fr.alloc | refine Fr.setCell ?_ (Or.inr (by simp; try omega)) _)) : Fr [] w _) hf)
  clear h1 hf hb hS
  go_wp2_with fail
  refine (Sweep_calls (roots := roots) HS1.out (Hr.out.fr Hf1.out) (by have := HL.out; omega)).mono ?_
  rintro e w2 ⟨h1, h2⟩
  have H1 := Lib.hid h1
  have H2 := Lib.hid h2
  clear h1 h2
  cases hm : marks s ns roots with
  | none =>
    obtain ⟨rfl, hf⟩ := H1.out hm
    have Hf2 := Lib.hid (Hf1.out.trans0 hf)
    clear hf hm
    go_wp2_with fail
    refine (alive_calls _).mono ?_
    rintro e w3 ⟨rfl, hf⟩
    have Hf3 := Lib.hid (Hf2.out.trans0 (Fr.trans0 (by (repeat (first | exact Fr.refl _ _ | assumption | apply Fr.drewN | apply Fr.drew | apply Fr.alloc | refine Fr.setCell ?_ (Or.inr (by simp; try omega)) _)) : Fr [] w2 _) hf))
    clear hf
    go_wp2
    go_ret
    exact ⟨rfl, Hf3.out⟩
  | some m =>
    obtain ⟨bt, G, mv, rfl, hT, ho, hf, _, _⟩ := H2.out m hm
    obtain ⟨ma, mc, rfl, _, _⟩ := owns_form ho
    have HS2 := Lib.hid (HS1.out.fr hf (by simp))
    have Hf2 := Lib.hid (Hf1.out.trans0 hf)
    have hlq : (sw s ns m ns.length).2.length ≤ 200 := by have := sw_len s ns m ns.length; have := Hg.out.1; omega
    obtain ⟨T, hTT⟩ : ∃ T, (sw s ns m ns.length).1 = T := ⟨_, rfl⟩
    obtain ⟨Q, hQQ⟩ : ∃ Q, (sw s ns m ns.length).2 = Q := ⟨_, rfl⟩
    obtain ⟨hgQ, ⟨m2, hm2, hs2, hL2⟩, halk⟩ := sweep_again Hg.out.2 hm hTT hQQ
    rw [hTT] at ho
    rw [hQQ] at hT hlq
    have HT2 := Lib.hid hT
    have Hm2 := Lib.hid (Reads.of_owns ho)
    have HgQ := Lib.hid hgQ
    have Hmm := Lib.hid hm2
    have Hs2 := Lib.hid hs2
    have HL2 := Lib.hid hL2
    have Halk := Lib.hid halk
    clear hm hf hT ho hTT hQQ hgQ hm2 hs2 hL2 halk H1 H2
    have hrl := HL.out
    obtain ⟨_, ra', rc', hre, har⟩ := Hr.out
    cases hre
    obtain ⟨_, ma', mc', hme, ham⟩ : Reads w2 (.slice ma roots.length mc) roots.length 1 (i64s (roots.map (geti T))) := by have := Hm2.out; exact this
    cases hme
    have Har := Lib.hid har
    have Ham := Lib.hid ham
    clear har ham
    go_wp2_with fail
    go_loopw [44] (fun x wl => ∃ (k : Nat), x = .int .i64 k ∧ k ≤ roots.length ∧ Fr [] w2 wl) (fun x _ => roots.length - (intOf x).toNat)
    case atStart => exact ⟨0, rfl, by omega, Fr.refl _ _⟩
    case round =>
      obtain ⟨k, rfl, hk, hf⟩ := hrel
      have Hf3 := Lib.hid (Hf2.out.trans0 hf)
      have HS3 := Lib.hid (HS2.out.fr hf (by simp))
      have HT3 := Lib.hid (HT2.out.fr hf (by simp))
      have Hff := Lib.hid hf
      by_cases hlt : k < roots.length
      · obtain ⟨g1, off1, rfl, hg1, hc1⟩ := Har.out (by omega)
        obtain ⟨g2, off2, rfl, hg2, hc2⟩ := Ham.out (by omega)
        obtain ⟨r, hr⟩ : ∃ r, roots[k]? = some r := ⟨_, List.getElem?_eq_getElem hlt⟩
        have e1 := (Hf3.out.cell (p := ⟨g1, off1 + k, none⟩) hg1 (by simp)).trans (hc1 k (.int .i64 r) (by rw [i64s, List.getElem?_map, hr]; rfl))
        have e2 := (hf.cell (p := ⟨g2, off2 + k, none⟩) hg2 (by simp)).trans (hc2 k (.int .i64 (geti T r)) (by rw [i64s, List.getElem?_map, List.getElem?_map, hr]; rfl))
        have hg1r : g1 < wr.heap.size := by have := Hf3.out.size; omega
        have hg2r : g2 < wr.heap.size := by have := hf.size; omega
        obtain ⟨al, lv⟩ := Halk.out r (List.mem_of_getElem? hr)
        obtain ⟨lx, hlx⟩ : ∃ lx, lvl s (levs s ns) r = lx := ⟨_, rfl⟩
        have hA := fun w3 (hf3 : Fr [] wr w3) => Alike_calls (HS3.out.fr hf3 (by simp)) (HT3.out.fr hf3 (by simp)) r (geti T r)
        rw [decide_eq_true al] at hA
        have hL1 := fun w3 (hf3 : Fr [] wr w3) => Level_calls (HS3.out.fr hf3 (by simp)) r
        have hL2 := fun w3 (hf3 : Fr [] wr w3) => Level_calls (HT3.out.fr hf3 (by simp)) (geti T r)
        rw [hlx] at hL1 lv
        rw [← lv] at hL2
        have HA := Lib.hid hA
        have HLA := Lib.hid hL1
        have HLB := Lib.hid hL2
        clear hf hc1 hc2 hr al lv hlx hA hL1 hL2
        generalize geti T r = r2 at *
        go_wp2
        refine wp_region_segs [([0, 1, 2, 3, 4, 5, 6, 7, 8, 9, 10, 11, 12, 13, 14, 15, 16, 17, 19, 20, 21, 22, 23, 18], [23]), ([24, 25, 26], [])] (by kernel_rfl) (by kernel_rfl) ?_
        (simp only [wpSegs, pick, Array.getD_eq_getD_getElem?, List.getElem?_toArray, List.getElem?_cons_succ, List.getElem?_cons_zero, Option.getD_some])
        go_wp2_with fail
        refine (HA.out _ (by (repeat (first | exact Fr.refl _ _ | assumption | apply Fr.drewN | apply Fr.drew | apply Fr.alloc | refine Fr.setCell ?_ (Or.inr (by simp; try omega)) _)))).mono ?_
        rintro e w4 ⟨rfl, hf⟩
        have hf4 : Fr [] wr w4 := Fr.trans0 (by (repeat (first | exact Fr.refl _ _ | assumption | apply Fr.drewN | apply Fr.drew | apply Fr.alloc | refine Fr.setCell ?_ (Or.inr (by simp; try omega)) _))) hf
        have e1' := (hf4.cell (p := ⟨g1, off1 + k, none⟩) hg1r (by simp)).trans e1
        have e2' := (hf4.cell (p := ⟨g2, off2 + k, none⟩) hg2r (by simp)).trans e2
        have hg1r' : g1 < w4.heap.size := by have := hf4.size; omega
        have hg2r' : g2 < w4.heap.size := by have := hf4.size; omega
        have Hf4 := Lib.hid hf4
        clear hf hf4 e1 e2
        go_wp2_with fail
        refine (HLA.out _ Hf4.out).mono ?_
        rintro e w5 ⟨rfl, hd'⟩
        have hf5 := hd'.fr []
        have e2 := (hf5.cell (p := ⟨g2, off2 + k, none⟩) hg2r' (by simp)).trans e2'
        have Hf5 := Lib.hid (Hf4.out.trans0 hf5)
        clear hd' hf5 e1' e2'
        go_wp2
        refine Mid.intro ⟨⟨again_cell (T := 3) rfl rfl rfl Try.underlying3 rfl e2 rfl, trivial⟩, ?_⟩
        go_wp2_with fail
        refine (HLB.out _ Hf5.out).mono ?_
        rintro e w6 ⟨rfl, hd'⟩
        have Hf6 := Lib.hid (Hf5.out.trans0 (hd'.fr []))
        clear hd' e2
        go_wp2
        refine Mid.intro ⟨trivial, Strict.intro rfl ?_⟩
        go_wp2
        go_roundw
        case rel => exact ⟨k + 1, by go_num, by omega, Hff.out.trans0 Hf6.out⟩
        case measure => simp [intOf]; omega
      · obtain rfl : k = roots.length := by omega
        clear hf
        obtain ⟨w3, rfl⟩ : ∃ w3 : World, w3 = wr := ⟨_, rfl⟩
        have hm3 : Reads w3 (.slice ma roots.length mc) (roots.map (geti T)).length 1 (i64s (roots.map (geti T))) := by
          have := Hm2.out.fr Hff.out
          rw [List.length_map]; exact this
        obtain ⟨L, hL⟩ : ∃ L, roots.map (geti T) = L := ⟨_, rfl⟩
        have hLl : L.length = roots.length := by rw [← hL, List.length_map]
        have hmk := Hmm.out
        have hl2 := HL2.out
        rw [hL] at hm3 hmk hl2
        have Hm3 := Lib.hid hm3
        have Hmk := Lib.hid hmk
        have Hl2 := Lib.hid hl2
        have HLl := Lib.hid hLl
        clear hm3 hmk hl2 hL hLl
        go_wp2_with fail
        refine (Sweep_calls (roots := L) HT3.out (by have := Hm3.out; rw [HLl.out] at this ⊢; exact this) (by have := HL.out; have := HLl.out; omega)).mono ?_
        rintro e w4 ⟨_, h2⟩
        obtain ⟨bu, G', uv, rfl, hU, ho, hf, _, _⟩ := h2 m2 Hmk.out
        rw [Hs2.out] at hU
        rw [Hl2.out] at ho
        obtain ⟨ua, uc, rfl, _, _⟩ := owns_form ho
        have HU4 := Lib.hid hU
        have HT4 := Lib.hid (HT3.out.fr hf (by simp))
        have Hm4 := Lib.hid (Hm3.out.fr hf)
        have Hf4 := Lib.hid (Hf3.out.trans0 hf)
        have Hu4 := Lib.hid (Reads.of_owns ho)
        clear h2 hU ho hf
        go_wp2_with fail
        refine (RSame_calls (L1 := L) (L2 := L) Hu4.out (by have := Hm4.out; rw [HLl.out] at this ⊢; exact this) (by have := HLl.out; have := HL.out; omega)).mono ?_
        rintro e w5 ⟨rfl, hd'⟩
        rw [decide_eq_true rfl]
        have HU5 := Lib.hid (HU4.out.drew hd')
        have HT5 := Lib.hid (HT4.out.drew hd')
        have Hf5 := Lib.hid (Hf4.out.trans0 (hd'.fr []))
        clear hd'
        go_wp2_with fail
        refine (Data_calls HU5.out).mono ?_
        rintro e w6 ⟨dv, rfl, ho, hf⟩
        obtain ⟨da, dc, rfl, _, _⟩ := owns_form ho
        have HT6 := Lib.hid (HT5.out.fr hf (by simp))
        have Hf6 := Lib.hid (Hf5.out.trans0 hf)
        have Hd6 := Lib.hid (Reads.of_owns ho)
        clear ho hf
        go_wp2_with fail
        refine (Data_calls HT6.out).mono ?_
        rintro e w7 ⟨dv, rfl, ho, hf⟩
        obtain ⟨ea, ec, rfl, _, _⟩ := owns_form ho
        have Hf7 := Lib.hid (Hf6.out.trans0 hf)
        have Hd7 := Lib.hid (Hd6.out.fr hf)
        have He7 := Lib.hid (Reads.of_owns ho)
        clear ho hf
        go_wp2_with fail
        refine (Same_ref (n1 := Q) (n2 := Q) (by omega) Hd7.out He7.out).mono ?_
        rintro e w8 ⟨rfl, hs⟩
        rw [show sameQ s s Q Q = true by simp [sameQ]]
        have Hf8 := Lib.hid (Hf7.out.trans0 (same_fr hs))
        clear hs
        go_wp2_with fail
        refine (alive_calls _).mono ?_
        rintro e w9 ⟨rfl, hf⟩
        have Hf9 := Lib.hid (Hf8.out.trans0 (Fr.trans0 (by (repeat (first | exact Fr.refl _ _ | assumption | apply Fr.drewN | apply Fr.drew | apply Fr.alloc | refine Fr.setCell ?_ (Or.inr (by simp; try omega)) _)) : Fr [] w8 _) hf))
        clear hf
        go_wp2
        go_ret
        exact ⟨rfl, Hf9.out⟩
end Go.Proofs.Ytgeomalefpjfdaa
