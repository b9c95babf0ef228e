/- The reference of big integers: big. -/
import Derived.Test.YtbacamboknmppaaDoorKb
namespace Go.Proofs.Bn
theorem val_quad (T : List Nat) (i k : Nat) (hk : k < 4) : val 256 ((T.drop (i + k)).take (4 - k)) = T.getD (i + k) 0 + 256 * val 256 ((T.drop (i + (k + 1))).take (4 - (k + 1))) := by
  have e : 4 - k = (4 - (k + 1)) + 1 := by omega
  by_cases h : i + k < T.length
  · rw [List.drop_eq_getElem_cons h, e, List.take_succ_cons, val, List.getD_eq_getElem?_getD, List.getElem?_eq_getElem h]; rfl
  · rw [List.drop_eq_nil_of_le (by omega), List.drop_eq_nil_of_le (by omega), List.getD_eq_getElem?_getD, List.getElem?_eq_none (by omega)]
    simp [val]
theorem val_take4 (T : List Nat) (i : Nat) (h : i ≤ T.length) : val 256 (T.take (i + 4)) = val 256 (T.take i) + 256 ^ i * val 256 ((T.drop i).take 4) := by
  rw [List.take_add, val_append, List.length_take, Nat.min_eq_left h]
end Go.Proofs.Bn
namespace Go.Proofs.YtbacamboknmppaaDoor
open Go Go.RowKit Go.Proofs.Rg Go.Proofs.Hp Go.Proofs.Bn
set_option linter.unusedVariables false
set_option linter.unusedSimpArgs false
set_option maxHeartbeats 8000000 in
set_option maxRecDepth 100000 in
theorem big_calls {w : World} {neg : Bool} {ds : List Nat} {a : Option Addr} {c : Nat} (hv : Reads w (.slice a ds.length c) ds.length 1 (i64s ds)) (hD : Dig 256 ds) (hl : ds.length ≤ 100000) (hc : ds.length ≤ c) :
    Calls Tryd.prog 40 #[.bool neg, .slice a ds.length c] w (BigPost w (w.heap.size ≤ ·) (mkN neg (val 256 ds))) := by
  have htr := fun w1 (hf : Fr [] w w1) => trim_calls (hv.fr hf) hD (by omega) hc (A := fun _ => True) (fun _ _ => trivial)
  obtain ⟨V, hV⟩ : ∃ V, V = val 256 ds := ⟨_, rfl⟩
  have hTl : (dg 256 V).length ≤ ds.length := by rw [hV]; exact (reads_trim' hv hD 0).2
  rw [← hV] at htr ⊢
  obtain ⟨T, hT⟩ : ∃ T, dg 256 V = T := ⟨_, rfl⟩
  have hTD : Dig 256 T := by rw [← hT]; exact dg_dig (by omega) V
  have hTC : Canon T := by rw [← hT]; exact dg_canon (by omega) V
  have hTV : val 256 T = V := by rw [← hT]; exact val_dg (by omega) V
  have h256 : T.length ≤ 256 ↔ V < 4294967296 ^ 64 := by rw [← hT, dg_length_le (by omega), show 256 ^ 256 = 4294967296 ^ 64 from pow256 64]
  have h0 : T = [] ↔ V = 0 := by rw [← hT]; exact dg_eq_nil (by omega)
  rw [hT] at htr hTl
  obtain ⟨r, hS⟩ : ∃ r, r = mkN neg V := ⟨_, rfl⟩
  rw [← hS]
  unfold mkN at hS
  have Htr := Lib.hid htr
  have HTD := Lib.hid hTD
  have HTC := Lib.hid hTC
  have HTV := Lib.hid hTV
  have H0 := Lib.hid h0
  clear htr hTD hTC hTV h0 hv hD hV hT
  by_cases hbig : T.length ≤ 256
  rotate_left
  · have hd : decide ((256 : Int) < T.length) = true := by rw [decide_eq_true_eq]; omega
    rw [if_neg (fun h => by have := H0.out.2 h; rw [this] at hbig; simp at hbig), if_neg (fun h => hbig (h256.2 h))] at hS
    subst hS
    clear hbig h256
    go_enter Tryd.func40, Tryd.ntmps40
    go_wp2_with fail
    refine (Htr.out _ (by (repeat (first | exact Fr.refl _ _ | assumption | apply Fr.drewN | apply Fr.drew | apply Fr.alloc | refine Fr.setCell ?_ (Or.inr (by simp; try omega)) _)))).mono ?_
    rintro e w1 ⟨ta, tc, hlo, rfl, hr, hf⟩
    have hc_ := (hf.block (w.heap.size) (by first | (simp; done) | (simp; omega)) (by simp)).trans (show _ = some (.cells #[.bool false, .slice none 0 0] 24 (0, 0)) by (repeat (first | rw [if_pos (by omega)] | rw [if_neg (by omega)] | rw [hp_drew] | rw [hp_drewN] | rw [hp_alloc_size] | rw [hp_setCell_size] | rw [hp_alloc] | rw [hp_setCell] | rw [Option.map_some] | rw [upd_cells] | rw [List.set_cons_zero] | rw [List.set_cons_succ] | rfl)))
    have c0 := heap_eq_cell hc_ 0
    have c0z := heap_eq_frozen hc_ 0
    have c1 := heap_eq_cell hc_ 1
    have c1z := heap_eq_frozen hc_ 1
    have cl := lt_of_block hc_
    have Hc := Lib.hid hc_
    clear hc_
    have Hf := Lib.hid (Fr.trans0 (by (repeat (first | exact Fr.refl _ _ | assumption | apply Fr.drewN | apply Fr.drew | apply Fr.alloc | refine Fr.setCell ?_ (Or.inr (by simp; try omega)) _)) : Fr [] w _) hf)
    clear hf hlo hr
    go_wp2
    (try simp only [Exit.inBlock, Exit.then])
    refine bodyPost_ret (big_result rfl (b := w.heap.size) (x := .bool false) (y := .slice none 0 0) rfl ?_ rfl) rfl ⟨_, _, ⟨Nat.le_refl _, fun g hg => (by cases hg)⟩, rfl, reads_nil _, ?_⟩
    · have h := Hc.out
      (repeat (first | rw [if_pos (by omega)] | rw [if_neg (by omega)] | rw [hp_drew] | rw [hp_drewN] | rw [hp_alloc_size] | rw [hp_setCell_size] | rw [hp_alloc] | rw [hp_setCell] | rw [Option.map_some] | rw [upd_cells] | rw [List.set_cons_zero] | rw [List.set_cons_succ] | rfl))
      rw [h]
      (repeat (first | rw [if_pos (by omega)] | rw [if_neg (by omega)] | rw [hp_drew] | rw [hp_drewN] | rw [hp_alloc_size] | rw [hp_setCell_size] | rw [hp_alloc] | rw [hp_setCell] | rw [Option.map_some] | rw [upd_cells] | rw [List.set_cons_zero] | rw [List.set_cons_succ] | rfl))
    · exact (Hf.out.setCell (.inr (by simp)) _).setCell (.inr (by simp)) _
  · have hd : decide ((256 : Int) < T.length) = false := by rw [decide_eq_false_iff_not]; omega
    have hS2 : r = (neg && decide (0 < T.length), dg 4294967296 V, 0) := by
      rw [hS]
      by_cases hV0 : V = 0
      · rw [if_pos hV0, hV0, dg_zero, H0.out.2 hV0]; simp
      · rw [if_neg hV0, if_pos (h256.1 hbig)]
        have : 0 < T.length := List.length_pos_iff.2 (fun h => hV0 (H0.out.1 h))
        simp [this]
    have HS := Lib.hid hS2
    obtain ⟨n, hn⟩ : ∃ n, T.length = n := ⟨_, rfl⟩
    rw [hn] at hbig hTl hd
    have Hn := Lib.hid hn
    clear hS hS2 h256 hn
    go_enter Tryd.func40, Tryd.ntmps40
    go_wp2_with fail
    refine (Htr.out _ (by (repeat (first | exact Fr.refl _ _ | assumption | apply Fr.drewN | apply Fr.drew | apply Fr.alloc | refine Fr.setCell ?_ (Or.inr (by simp; try omega)) _)))).mono ?_
    rintro e w1 ⟨ta, tc, hlo, rfl, hr, hf⟩
    rw [Hn.out] at hr ⊢
    have hc_ := (hf.block (w.heap.size) (by first | (simp; done) | (simp; omega)) (by simp)).trans (show _ = some (.cells #[.bool false, .slice none 0 0] 24 (0, 0)) by (repeat (first | rw [if_pos (by omega)] | rw [if_neg (by omega)] | rw [hp_drew] | rw [hp_drewN] | rw [hp_alloc_size] | rw [hp_setCell_size] | rw [hp_alloc] | rw [hp_setCell] | rw [Option.map_some] | rw [upd_cells] | rw [List.set_cons_zero] | rw [List.set_cons_succ] | rfl)))
    have c0 := heap_eq_cell hc_ 0
    have c0z := heap_eq_frozen hc_ 0
    have c1 := heap_eq_cell hc_ 1
    have c1z := heap_eq_frozen hc_ 1
    have cl := lt_of_block hc_
    have Hc := Lib.hid hc_
    clear hc_
    have Hf := Lib.hid (Fr.trans0 (by (repeat (first | exact Fr.refl _ _ | assumption | apply Fr.drewN | apply Fr.drew | apply Fr.alloc | refine Fr.setCell ?_ (Or.inr (by simp; try omega)) _)) : Fr [] w _) hf)
    have Hr := Lib.hid hr
    have hrr := hr
    obtain ⟨_, _, _, he, hra⟩ := hrr
    cases he
    have Hra := Lib.hid hra
    clear hf hlo hr hra c0 c1 c0z c1z
    go_wp2_with fail
    go_loopw [7] (fun x7 wl => ∃ (j : Nat) (l : List Nat) (oa : Option Addr) (oc : Nat), x7 = .int .i64 (4 * (j : Int)) ∧ 4 * j < n + 4 ∧ l.length = j ∧ Dig 4294967296 l ∧ val 4294967296 l = val 256 (T.take (4 * j)) ∧ wl.ownsRow (w1.heap.size + 1) 45 1 (.slice oa j oc) j (u32s l) ∧ Fr [] w1 wl ∧
      wl.heap[w1.heap.size]? = some (.cells #[.bool false, .slice oa j oc] 24 (0, 0))) (fun x7 _ => n + 4 - (intOf x7).toNat)
    case atStart => exact ⟨0, [], none, 0, rfl, by omega, rfl, Dig.nil, rfl, World.ownsRow_nil _ _ _ _, by (repeat (first | exact Fr.refl _ _ | assumption | apply Fr.drewN | apply Fr.drew | apply Fr.alloc | refine Fr.setCell ?_ (Or.inr (by simp; try omega)) _)), by (repeat (first | rw [if_pos (by omega)] | rw [if_neg (by omega)] | rw [hp_drew] | rw [hp_drewN] | rw [hp_alloc_size] | rw [hp_setCell_size] | rw [hp_alloc] | rw [hp_setCell] | rw [Option.map_some] | rw [upd_cells] | rw [List.set_cons_zero] | rw [List.set_cons_succ] | rfl))⟩
    case round =>
      obtain ⟨j, l, oa, oc, rfl, hj, hlj, hDl, hvl, ho, hf, hb⟩ := hrel
      have b0 := heap_eq_cell hb 0
      have b1 := heap_eq_cell hb 1
      have b0z := heap_eq_frozen hb 0
      have b1z := heap_eq_frozen hb 1
      have bl := lt_of_block hb
      have HDl := Lib.hid hDl
      have Hlj := Lib.hid hlj
      have Hvl := Lib.hid hvl
      have Ho := Lib.hid ho
      have Hf2 := Lib.hid hf
      have Hb := Lib.hid hb
      have hf1 := hf.size
      clear hlj hDl hvl ho hf hb
      by_cases hjn : 4 * j < n
      · have hjd : decide ((4 : Int) * j < n) = true := by rw [decide_eq_true_eq]; omega
        obtain ⟨g, off, rfl, hg, hc2⟩ := Hra.out (by omega)
        go_wp2_with fail
        go_loopw [8, 9] (fun x8 x9 wl => ∃ (k d : Nat) (z : Int), x8 = .int .u32 d ∧ x9 = .int .i64 z ∧ z = (k : Int) - 1 ∧ k ≤ 4 ∧ d < 256 ^ (4 - k) ∧ d = val 256 ((T.drop (4 * j + k)).take (4 - k)) ∧ wl = wr) (fun _ x9 _ => (intOf x9 + 1).toNat)
        case atStart => exact ⟨4, 0, 3, rfl, rfl, rfl, by omega, by omega, by simp [val], rfl⟩
        case round =>
          obtain ⟨k, d, z, rfl, rfl, hz, hk, hd2, hdv, rfl⟩ := hrel
          have Hd2 := Lib.hid hd2
          have Hdv := Lib.hid hdv
          clear hd2 hdv
          cases k with
          | zero =>
            obtain rfl : z = -1 := by omega
            have hdv := Hdv.out
            rw [Nat.add_zero, Nat.sub_zero] at hdv
            have hd9 : d < 4294967296 := Hd2.out
            have hv9 : val 4294967296 (l ++ [d]) = val 256 (T.take (4 * (j + 1))) := by
              rw [val_snoc, Hvl.out, Hlj.out, show 4 * (j + 1) = 4 * j + 4 by omega, val_take4 T (4 * j) (by have := Hn.out; omega), pow256, ← hdv]
            have Hv9 := Lib.hid hv9
            have hD9 : Dig 4294967296 (l ++ [d]) := HDl.out.append (fun z hz => by rw [List.mem_singleton] at hz; omega)
            have HD9 := Lib.hid hD9
            clear hz hdv hv9 hD9
            go_wp2_with (at_builtin; refine append_u32 (n := j) (base := w1.heap.size + 1) (xs := u32s l) (y := (d : Int)) rfl rfl rfl ?e1 rfl ?e2 ?e3 ?e4 ?_)
            case e1 => exact owns_of_block Ho.out fun y hy => heap_alloc_else _ _ _ (owns_lt Ho.out hy)
            case e2 => (first | (rw [hp_alloc, if_pos rfl]; done) | exact (Array.getElem?_eq_some_iff.1 ((hp_alloc _ _ _).trans (if_pos rfl))).2 | (simp only [hp_drew, hp_drewN]; rw [hp_alloc, if_pos rfl]; done))
            case e3 => omega
            case e4 => have := lt_of_block Hb.out; (first | omega | (simp only [hp_drew, hp_drewN, hp_alloc_size]; omega) | (simp; omega))
            intro g2 cap w9 hown1 hW1 hF1 hloc1 hg1
            rw [u32s_snoc] at hown1
            have hb9 := (hW1 w1.heap.size (by have := lt_of_block Hb.out; (first | omega | (simp only [hp_drew, hp_drewN, hp_alloc_size]; omega) | (simp; omega))) (fun e => by have h := owns_ge Ho.out e; omega)).trans ((heap_alloc_else _ _ _ (lt_of_block Hb.out)).trans Hb.out)
            have Hown1 := Lib.hid hown1
            have Hf9 := Lib.hid (fr_append Hf2.out (owns_base Ho.out (Nat.le_succ _)) hF1)
            have q0 := heap_eq_cell hb9 0
            have q1 := heap_eq_cell hb9 1
            have q0z := heap_eq_frozen hb9 0
            have q1z := heap_eq_frozen hb9 1
            have ql := lt_of_block hb9
            have Hb9 := Lib.hid hb9
            have Hg2 : Hid (w1.heap.size + 1 ≤ g2) := Lib.hid (owns_ge hown1 rfl)
            clear hown1 hW1 hF1 hloc1 hb9 b0 b1 b0z b1z bl
            go_wp2
            go_roundw
            case rel =>
              refine ⟨j + 1, l ++ [d], some ⟨g2, 0, none⟩, cap, by go_num, by omega, by rw [List.length_append, Hlj.out]; rfl, HD9.out, Hv9.out, owns_of_block Hown1.out (fun x hx => ?_), Hf9.out.setCell (.inr (by simp)) _, ?_⟩
              · have h2 : g2 = x := by simpa [Value.ownBlock] using hx
                have := Hg2.out
                exact setCell_else _ _ _ (by simp; omega)
              · have h := Hb9.out
                (repeat (first | rw [if_pos (by omega)] | rw [if_neg (by omega)] | rw [hp_drew] | rw [hp_drewN] | rw [hp_alloc_size] | rw [hp_setCell_size] | rw [hp_alloc] | rw [hp_setCell] | rw [Option.map_some] | rw [upd_cells] | rw [List.set_cons_zero] | rw [List.set_cons_succ] | rfl))
                rw [h]
                (repeat (first | rw [if_pos (by omega)] | rw [if_neg (by omega)] | rw [hp_drew] | rw [hp_drewN] | rw [hp_alloc_size] | rw [hp_setCell_size] | rw [hp_alloc] | rw [hp_setCell] | rw [Option.map_some] | rw [upd_cells] | rw [List.set_cons_zero] | rw [List.set_cons_succ] | rfl))
            case measure => simp [intOf]; omega
          | succ k =>
            obtain rfl : z = (k : Int) := by omega
            clear hz
            have hd3 : d < 16777216 := Nat.lt_of_lt_of_le Hd2.out (Nat.pow_le_pow_right (show 0 < 256 by omega) (show 4 - (k + 1) ≤ 3 by omega))
            have hq := val_quad T (4 * j) k (by omega)
            rw [← Hdv.out] at hq
            have Hq := Lib.hid hq
            have hx : T.getD (4 * j + k) 0 < 256 := HTD.out.getD (by omega) _
            have hp2 : T.getD (4 * j + k) 0 + 256 * d < 256 ^ (4 - k) := by
              have h := Hd2.out
              rw [show 4 - k = (4 - (k + 1)) + 1 by omega, Nat.pow_succ]
              omega
            have Hp2 := Lib.hid hp2
            clear hq hp2
            by_cases hin : 4 * j + k < n
            · have hdi : decide ((4 : Int) * j + k < n) = true := by rw [decide_eq_true_eq]; omega
              have e1 := (Hf2.out.cell (p := ⟨g, off + (4 * j + k), none⟩) hg (by simp)).trans (hc2 (4 * j + k) _ (i64s_get (by have := Hn.out; omega)))
              generalize T.getD (4 * j + k) 0 = x at *
              go_wp2
              go_roundw
              case rel => exact ⟨k, x + 256 * d, (k : Int) - 1, by go_num, by go_num, rfl, by omega, Hp2.out, Hq.out.symm, trivial⟩
              case measure => simp [intOf]
            · have hdi : decide ((4 : Int) * j + k < n) = false := by rw [decide_eq_false_iff_not]; omega
              have hx0 : T.getD (4 * j + k) 0 = 0 := by rw [List.getD_eq_getElem?_getD, List.getElem?_eq_none (by have := Hn.out; omega)]; rfl
              have hp2 := Hp2.out
              have hq := Hq.out
              rw [hx0, Nat.zero_add] at hp2 hq
              have Hp2 := Lib.hid hp2
              have Hq := Lib.hid hq
              clear hp2 hq hx hx0
              go_wp2
              go_roundw
              case rel => exact ⟨k, 256 * d, (k : Int) - 1, by go_num, by go_num, rfl, by omega, Hp2.out, Hq.out.symm, trivial⟩
              case measure => simp [intOf]
      · have hjd : decide ((4 : Int) * j < n) = false := by rw [decide_eq_false_iff_not]; omega
        have hl : l = dg 4294967296 V := by
          have hv := Hvl.out
          rw [List.take_of_length_le (by have := Hn.out; omega), HTV.out] at hv
          have hcan : Canon l := by
            rcases Nat.eq_zero_or_pos j with h | h
            · have h2 := Hlj.out
              rw [h] at h2
              rw [List.eq_nil_of_length_eq_zero h2]; simp [Canon]
            · refine canon_of_ge HDl.out ?_
              have hne : T ≠ [] := fun e => by have h2 := Hn.out; rw [e] at h2; simp at h2; omega
              have h2 := canon_le (B := 256) (by omega) HTD.out HTC.out hne
              rw [hv, Hlj.out]
              rw [HTV.out, Hn.out] at h2
              refine Nat.le_trans ?_ h2
              rw [← pow256]
              exact Nat.pow_le_pow_right (by omega) (by omega)
          rw [← hv, dg_val (by omega) HDl.out hcan]
        have hS := HS.out
        rw [← hl, Hn.out] at hS
        have HS2 := Lib.hid hS
        obtain ⟨ngn, hngn⟩ : ∃ ngn, (neg && decide (0 < n)) = ngn := ⟨_, rfl⟩
        rw [hngn] at HS2
        have hdn : decide ((0 : Int) < n) = decide (0 < n) := by rw [decide_eq_decide]; omega
        have Hc1 := Lib.hid ((Hf2.out.block _ (lt_of_block Hc.out) (by simp)).trans Hc.out)
        have c0 := heap_eq_cell Hc1.out 0
        have c1 := heap_eq_cell Hc1.out 1
        have c0z := heap_eq_frozen Hc1.out 0
        have c1z := heap_eq_frozen Hc1.out 1
        have cl2 := lt_of_block Hc1.out
        have hcb : w.heap.size < w1.heap.size := cl
        have Hf9 := Lib.hid (Hf.out.trans0 Hf2.out)
        clear hl hS cl hj
        cases neg
        · have Hng : Hid (ngn = false) := Lib.hid (by rw [← hngn]; rfl)
          clear hngn hdn hjd
          go_wp2
          (try simp only [Exit.inBlock, Exit.then])
          rw [HS2.out, Hng.out]
          have hlj := Hlj.out
          refine bodyPost_ret (big_result rfl (b := w.heap.size) (x := .bool false) (y := .slice oa j oc) rfl ?_ rfl) rfl ⟨oa, oc, ⟨by show l.length ≤ oc; rw [hlj]; exact owns_cap Ho.out, fun g hg => ?_⟩, by rw [← hlj]; rfl, ?_, ?_⟩
          · have h := Hc1.out
            (repeat (first | rw [if_pos (by omega)] | rw [if_neg (by omega)] | rw [hp_drew] | rw [hp_drewN] | rw [hp_alloc_size] | rw [hp_setCell_size] | rw [hp_alloc] | rw [hp_setCell] | rw [Option.map_some] | rw [upd_cells] | rw [List.set_cons_zero] | rw [List.set_cons_succ] | rfl))
            rw [h]
            (repeat (first | rw [if_pos (by omega)] | rw [if_neg (by omega)] | rw [hp_drew] | rw [hp_drewN] | rw [hp_alloc_size] | rw [hp_setCell_size] | rw [hp_alloc] | rw [hp_setCell] | rw [Option.map_some] | rw [upd_cells] | rw [List.set_cons_zero] | rw [List.set_cons_succ] | rfl))
          · have h := owns_ge Ho.out (own_len oa _ _ _ oc ▸ hg)
            omega
          · show Reads _ (.slice oa l.length oc) l.length 1 (u32s l)
            rw [hlj]
            refine (Reads.of_owns Ho.out).keep fun x hx hl => ?_
            have h := owns_ge Ho.out hx
            rw [setCell_else _ _ _ (by simp; omega), setCell_else _ _ _ (by simp; omega), setCell_else _ _ _ (by simp; omega)]
          · exact ((Hf9.out.setCell (.inr (by simp; try omega)) _).setCell (.inr (by simp; try omega)) _).setCell (.inr (by simp; try omega)) _
        · have hdn2 : decide (0 < n) = ngn := by rw [← hngn]; rfl
          clear hngn
          go_wp2
          (try simp only [Exit.inBlock, Exit.then])
          rw [HS2.out]
          have hlj := Hlj.out
          refine bodyPost_ret (big_result rfl (b := w.heap.size) (x := .bool ngn) (y := .slice oa j oc) rfl ?_ rfl) rfl ⟨oa, oc, ⟨by show l.length ≤ oc; rw [hlj]; exact owns_cap Ho.out, fun g hg => ?_⟩, by rw [← hlj]; rfl, ?_, ?_⟩
          · have h := Hc1.out
            (repeat (first | rw [if_pos (by omega)] | rw [if_neg (by omega)] | rw [hp_drew] | rw [hp_drewN] | rw [hp_alloc_size] | rw [hp_setCell_size] | rw [hp_alloc] | rw [hp_setCell] | rw [Option.map_some] | rw [upd_cells] | rw [List.set_cons_zero] | rw [List.set_cons_succ] | rfl))
            rw [h]
            (repeat (first | rw [if_pos (by omega)] | rw [if_neg (by omega)] | rw [hp_drew] | rw [hp_drewN] | rw [hp_alloc_size] | rw [hp_setCell_size] | rw [hp_alloc] | rw [hp_setCell] | rw [Option.map_some] | rw [upd_cells] | rw [List.set_cons_zero] | rw [List.set_cons_succ] | rfl))
          · have h := owns_ge Ho.out (own_len oa _ _ _ oc ▸ hg)
            omega
          · show Reads _ (.slice oa l.length oc) l.length 1 (u32s l)
            rw [hlj]
            refine (Reads.of_owns Ho.out).keep fun x hx hl => ?_
            have h := owns_ge Ho.out hx
            rw [setCell_else _ _ _ (by simp; omega), setCell_else _ _ _ (by simp; omega), setCell_else _ _ _ (by simp; omega)]
          · exact ((Hf9.out.setCell (.inr (by simp; try omega)) _).setCell (.inr (by simp; try omega)) _).setCell (.inr (by simp; try omega)) _
end Go.Proofs.YtbacamboknmppaaDoor
