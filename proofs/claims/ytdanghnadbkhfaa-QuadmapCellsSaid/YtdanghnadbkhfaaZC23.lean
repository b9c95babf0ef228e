/- Own texts of this claim, part 24: no condition. -/
import Derived.IntWalk
import Derived.Test.YtdanghnadbkhfaaZC21
import Derived.Test.YtdanghnadbkhfaaZC22
import Derived.Test.YtdanghnadbkhfaaZC19
section
/- Law QuadmapCells, walked. -/
namespace Go.Proofs.Ytdanghnadbkhfaa
open Go Go.RowKit Go.Proofs.Rg Go.Proofs.Mp Go.Proofs.Hp Go.Proofs.Qs Go.Proofs.Ev Go.Proofs.Bn Go.Proofs.Pt
set_option linter.unusedVariables false
set_option linter.unusedSimpArgs false
set_option maxHeartbeats 16000000 in
set_option maxRecDepth 100000 in
theorem QuadmapCells_calls {W : World} {s : Int} {ns : List K4} {a : Option Addr} {c : Nat} (hv : Reads W (.slice a ns.length c) ns.length 4 (flat ns)) (node : Int) {nx : Bool} {dx : List Nat} {ax : Option Addr} {cx : Nat} {ny : Bool} {dy : List Nat} {ay : Option Addr} {cy : Nat} (st : Int) {na : Bool} {da : List Nat} {aa : Option Addr} {ca : Nat} {nb : Bool} {db : List Nat} {ab : Option Addr} {cb : Nat}
    (hx : BigIn W nx dx ax cx) (hy : BigIn W ny dy ay cy) (ha : BigIn W na da aa ca) (hb : BigIn W nb db ab cb) (hsa : da.length ≤ 9223372036854775807) (hsb : db.length ≤ 9223372036854775807) :
    Calls Try.prog 5 #[.agg #[.int .i64 s, .slice a ns.length c, .int .i64 node, .bool nx, .slice ax dx.length cx, .bool ny, .slice ay dy.length cy, .int .i64 st], .agg #[.bool na, .slice aa da.length ca], .agg #[.bool nb, .slice ab db.length cb]] W fun e w' => e = .returned (.bool true) ∧ Fr [] W w' := by
  have HLD := Lib.hid (fun w1 (hf : Fr [] W w1) => loaded_q (s := s) (hv.fr hf))
  have HIN := Lib.hid (And.intro hx (And.intro hy (And.intro ha hb)))
  have HSZ := Lib.hid (And.intro hsa hsb)
  have dga := ha.dig
  have dgb := hb.dig
  have dgx := hx.dig
  have dgy := hy.dig
  clear hv hx hy ha hb hsa hsb
  by_cases hok : ns.length ≤ 100 ∧ GoodQ s ns
  case neg =>
    have Hok := Lib.hid hok
    clear hok dga dgb dgx dgy
    go_enter Try.func5, Try.ntmps5
    go_wp2_with fail
    refine (HLD.out _ (by (repeat (first | exact Fr.refl _ _ | assumption | apply Fr.drewN | apply Fr.drew | apply Fr.alloc | refine Fr.setCell ?_ (Or.inr (by simp; try omega)) _)))).mono ?_
    rintro e w1 ⟨_, h1⟩
    obtain ⟨rfl, hf1⟩ := h1 Hok.out
    have Hf1 := Lib.hid hf1
    clear h1 hf1
    go_wp2_with fail
    refine (awake_q _).mono ?_
    rintro e w9 ⟨rfl, hf9⟩
    have Hf9 := Lib.hid (Fr.trans0 (by (repeat (first | exact Fr.refl _ _ | assumption | apply Fr.drewN | apply Fr.drew | apply Fr.alloc | refine Fr.setCell ?_ (Or.inr (by simp; try omega)) _)) : Fr [] W _) (Hf1.out.trans0 (Fr.trans0 (by (repeat (first | exact Fr.refl _ _ | assumption | apply Fr.drewN | apply Fr.drew | apply Fr.alloc | refine Fr.setCell ?_ (Or.inr (by simp; try omega)) _))) hf9)))
    clear hf9
    go_wp2
    go_ret
    exact ⟨rfl, Hf9.out⟩
  obtain ⟨hlen, hg⟩ := hok
  have Hok := Lib.hid (And.intro hlen hg)
  obtain ⟨⟨g1, g2⟩, hE1⟩ : ∃ p, getQ s ns node na da nb db = p := ⟨_, rfl⟩
  have HE1 := Lib.hid hE1
  by_cases hp : placeE (lvl s (levs s ns) node) nx dx ny dy = 0
  case neg =>
    have HE2 := Lib.hid (get_bad hp)
    have HE3 := Lib.hid (show changeQ s ns node nx dx ny dy st = ((0, placeE (lvl s (levs s ns) node) nx dx ny dy), ns) by unfold changeQ; rw [if_pos hp])
    obtain ⟨e, he⟩ : ∃ e, placeE (lvl s (levs s ns) node) nx dx ny dy = e := ⟨_, rfl⟩
    rw [he] at HE2 HE3 hp
    have hv : e = 13 ∨ e = 2 ∨ e = 5 := by
      subst he
      unfold placeE at hp ⊢
      split at hp <;> rename_i q1
      · exact .inl (if_pos q1)
      · rw [if_neg q1]
        split at hp <;> rename_i q2
        · exact .inr (.inl (if_pos q2))
        · rw [if_neg q2]
          split at hp <;> rename_i q3
          · exact absurd rfl hp
          · exact .inr (.inr (if_neg q3))
    clear hE1 hp hlen hg he dga dgb dgx dgy
    rcases hv with rfl | rfl | rfl
    ·
      go_enter Try.func5, Try.ntmps5
      go_wp2_with fail
      refine (HLD.out _ (by (repeat (first | exact Fr.refl _ _ | assumption | apply Fr.drewN | apply Fr.drew | apply Fr.alloc | refine Fr.setCell ?_ (Or.inr (by simp; try omega)) _)))).mono ?_
      rintro e w1 ⟨h1, _⟩
      obtain ⟨b, r, rfl, h9⟩ := h1 Hok.out
      (try clear x0 x1 x2 x3 x4 x5 x6 x7 xl Hx y0 y1 yl Hy z0 z1 zl Hz)
      have hx_ := (h9.fr.block (W.heap.size) (by first | (simp; done) | (simp; omega)) (by simp)).trans (show _ = some (.cells #[.int .i64 s, .slice a ns.length c, .int .i64 node, .bool nx, .slice ax dx.length cx, .bool ny, .slice ay dy.length cy, .int .i64 st] 58 (0, 0)) by (repeat (first | rw [if_pos (by omega)] | rw [if_neg (by omega)] | rw [hp_drew] | rw [hp_drewN] | rw [hp_alloc_size] | rw [hp_setCell_size] | rw [hp_alloc] | rw [hp_setCell] | rw [Option.map_some] | rw [upd_cells] | rw [List.set_cons_zero] | rw [List.set_cons_succ] | rfl)))
      have x0 := heap_eq_cell hx_ 0
      have x1 := heap_eq_cell hx_ 1
      have x2 := heap_eq_cell hx_ 2
      have x3 := heap_eq_cell hx_ 3
      have x4 := heap_eq_cell hx_ 4
      have x5 := heap_eq_cell hx_ 5
      have x6 := heap_eq_cell hx_ 6
      have x7 := heap_eq_cell hx_ 7
      have xl := lt_of_block hx_
      have Hx := Lib.hid hx_
      clear hx_
      have hy_ := (h9.fr.block (W.heap.size + 1) (by first | (simp; done) | (simp; omega)) (by simp)).trans (show _ = some (.cells #[.bool na, .slice aa da.length ca] 38 (0, 0)) by (repeat (first | rw [if_pos (by omega)] | rw [if_neg (by omega)] | rw [hp_drew] | rw [hp_drewN] | rw [hp_alloc_size] | rw [hp_setCell_size] | rw [hp_alloc] | rw [hp_setCell] | rw [Option.map_some] | rw [upd_cells] | rw [List.set_cons_zero] | rw [List.set_cons_succ] | rfl)))
      have y0 := heap_eq_cell hy_ 0
      have y1 := heap_eq_cell hy_ 1
      have yl := lt_of_block hy_
      have Hy := Lib.hid hy_
      clear hy_
      have hz_ := (h9.fr.block (W.heap.size + 2) (by first | (simp; done) | (simp; omega)) (by simp)).trans (show _ = some (.cells #[.bool nb, .slice ab db.length cb] 38 (0, 0)) by (repeat (first | rw [if_pos (by omega)] | rw [if_neg (by omega)] | rw [hp_drew] | rw [hp_drewN] | rw [hp_alloc_size] | rw [hp_setCell_size] | rw [hp_alloc] | rw [hp_setCell] | rw [Option.map_some] | rw [upd_cells] | rw [List.set_cons_zero] | rw [List.set_cons_succ] | rfl)))
      have z0 := heap_eq_cell hz_ 0
      have z1 := heap_eq_cell hz_ 1
      have zl := lt_of_block hz_
      have Hz := Lib.hid hz_
      clear hz_
      have H1 := Lib.hid h9
      clear h1 h9
      go_wp2_with fail
      refine (Get_q H1.out node (HIN.out.2.2.1.fr (Fr.trans0 (by (repeat (first | exact Fr.refl _ _ | assumption | apply Fr.drewN | apply Fr.drew | apply Fr.alloc | refine Fr.setCell ?_ (Or.inr (by simp; try omega)) _))) H1.out.fr)) (HIN.out.2.2.2.fr (Fr.trans0 (by (repeat (first | exact Fr.refl _ _ | assumption | apply Fr.drewN | apply Fr.drew | apply Fr.alloc | refine Fr.setCell ?_ (Or.inr (by simp; try omega)) _))) H1.out.fr))).mono ?_
      rw [HE1.out]
      rintro e w2 ⟨rfl, h9, _⟩
      (try clear x0 x1 x2 x3 x4 x5 x6 x7 xl Hx y0 y1 yl Hy z0 z1 zl Hz)
      have hx_ := (h9.fr.block (W.heap.size) (by first | (simp; done) | (simp; omega)) (by simp)).trans (show _ = some (.cells #[.int .i64 s, .slice a ns.length c, .int .i64 node, .bool nx, .slice ax dx.length cx, .bool ny, .slice ay dy.length cy, .int .i64 st] 58 (0, 0)) by (repeat (first | rw [if_pos (by omega)] | rw [if_neg (by omega)] | rw [hp_drew] | rw [hp_drewN] | rw [hp_alloc_size] | rw [hp_setCell_size] | rw [hp_alloc] | rw [hp_setCell] | rw [Option.map_some] | rw [upd_cells] | rw [List.set_cons_zero] | rw [List.set_cons_succ] | rfl)))
      have x0 := heap_eq_cell hx_ 0
      have x1 := heap_eq_cell hx_ 1
      have x2 := heap_eq_cell hx_ 2
      have x3 := heap_eq_cell hx_ 3
      have x4 := heap_eq_cell hx_ 4
      have x5 := heap_eq_cell hx_ 5
      have x6 := heap_eq_cell hx_ 6
      have x7 := heap_eq_cell hx_ 7
      have xl := lt_of_block hx_
      have Hx := Lib.hid hx_
      clear hx_
      have hy_ := (h9.fr.block (W.heap.size + 1) (by first | (simp; done) | (simp; omega)) (by simp)).trans (show _ = some (.cells #[.bool na, .slice aa da.length ca] 38 (0, 0)) by (repeat (first | rw [if_pos (by omega)] | rw [if_neg (by omega)] | rw [hp_drew] | rw [hp_drewN] | rw [hp_alloc_size] | rw [hp_setCell_size] | rw [hp_alloc] | rw [hp_setCell] | rw [Option.map_some] | rw [upd_cells] | rw [List.set_cons_zero] | rw [List.set_cons_succ] | rfl)))
      have y0 := heap_eq_cell hy_ 0
      have y1 := heap_eq_cell hy_ 1
      have yl := lt_of_block hy_
      have Hy := Lib.hid hy_
      clear hy_
      have hz_ := (h9.fr.block (W.heap.size + 2) (by first | (simp; done) | (simp; omega)) (by simp)).trans (show _ = some (.cells #[.bool nb, .slice ab db.length cb] 38 (0, 0)) by (repeat (first | rw [if_pos (by omega)] | rw [if_neg (by omega)] | rw [hp_drew] | rw [hp_drewN] | rw [hp_alloc_size] | rw [hp_setCell_size] | rw [hp_alloc] | rw [hp_setCell] | rw [Option.map_some] | rw [upd_cells] | rw [List.set_cons_zero] | rw [List.set_cons_succ] | rfl)))
      have z0 := heap_eq_cell hz_ 0
      have z1 := heap_eq_cell hz_ 1
      have zl := lt_of_block hz_
      have Hz := Lib.hid hz_
      clear hz_
      have H2 := Lib.hid h9
      clear h9 H1
      go_wp2_with fail
      refine (Get_q H2.out node (HIN.out.1.fr (Fr.trans0 (by (repeat (first | exact Fr.refl _ _ | assumption | apply Fr.drewN | apply Fr.drew | apply Fr.alloc | refine Fr.setCell ?_ (Or.inr (by simp; try omega)) _))) H2.out.fr)) (HIN.out.2.1.fr (Fr.trans0 (by (repeat (first | exact Fr.refl _ _ | assumption | apply Fr.drewN | apply Fr.drew | apply Fr.alloc | refine Fr.setCell ?_ (Or.inr (by simp; try omega)) _))) H2.out.fr))).mono ?_
      rw [HE2.out]
      rintro e w3 ⟨rfl, h9, _⟩
      (try clear x0 x1 x2 x3 x4 x5 x6 x7 xl Hx y0 y1 yl Hy z0 z1 zl Hz)
      have hx_ := (h9.fr.block (W.heap.size) (by first | (simp; done) | (simp; omega)) (by simp)).trans (show _ = some (.cells #[.int .i64 s, .slice a ns.length c, .int .i64 node, .bool nx, .slice ax dx.length cx, .bool ny, .slice ay dy.length cy, .int .i64 st] 58 (0, 0)) by (repeat (first | rw [if_pos (by omega)] | rw [if_neg (by omega)] | rw [hp_drew] | rw [hp_drewN] | rw [hp_alloc_size] | rw [hp_setCell_size] | rw [hp_alloc] | rw [hp_setCell] | rw [Option.map_some] | rw [upd_cells] | rw [List.set_cons_zero] | rw [List.set_cons_succ] | rfl)))
      have x0 := heap_eq_cell hx_ 0
      have x1 := heap_eq_cell hx_ 1
      have x2 := heap_eq_cell hx_ 2
      have x3 := heap_eq_cell hx_ 3
      have x4 := heap_eq_cell hx_ 4
      have x5 := heap_eq_cell hx_ 5
      have x6 := heap_eq_cell hx_ 6
      have x7 := heap_eq_cell hx_ 7
      have xl := lt_of_block hx_
      have Hx := Lib.hid hx_
      clear hx_
      have hy_ := (h9.fr.block (W.heap.size + 1) (by first | (simp; done) | (simp; omega)) (by simp)).trans (show _ = some (.cells #[.bool na, .slice aa da.length ca] 38 (0, 0)) by (repeat (first | rw [if_pos (by omega)] | rw [if_neg (by omega)] | rw [hp_drew] | rw [hp_drewN] | rw [hp_alloc_size] | rw [hp_setCell_size] | rw [hp_alloc] | rw [hp_setCell] | rw [Option.map_some] | rw [upd_cells] | rw [List.set_cons_zero] | rw [List.set_cons_succ] | rfl)))
      have y0 := heap_eq_cell hy_ 0
      have y1 := heap_eq_cell hy_ 1
      have yl := lt_of_block hy_
      have Hy := Lib.hid hy_
      clear hy_
      have hz_ := (h9.fr.block (W.heap.size + 2) (by first | (simp; done) | (simp; omega)) (by simp)).trans (show _ = some (.cells #[.bool nb, .slice ab db.length cb] 38 (0, 0)) by (repeat (first | rw [if_pos (by omega)] | rw [if_neg (by omega)] | rw [hp_drew] | rw [hp_drewN] | rw [hp_alloc_size] | rw [hp_setCell_size] | rw [hp_alloc] | rw [hp_setCell] | rw [Option.map_some] | rw [upd_cells] | rw [List.set_cons_zero] | rw [List.set_cons_succ] | rfl)))
      have z0 := heap_eq_cell hz_ 0
      have z1 := heap_eq_cell hz_ 1
      have zl := lt_of_block hz_
      have Hz := Lib.hid hz_
      clear hz_
      have H3 := Lib.hid h9
      clear h9 H2
      go_wp2_with fail
      refine (Set_q H3.out node (BigSrc.base (HIN.out.1.fr (by (repeat (first | exact Fr.refl _ _ | assumption | apply Fr.drewN | apply Fr.drew | apply Fr.alloc | refine Fr.setCell ?_ (Or.inr (by simp; try omega)) _))))) (BigSrc.base (HIN.out.2.1.fr (by (repeat (first | exact Fr.refl _ _ | assumption | apply Fr.drewN | apply Fr.drew | apply Fr.alloc | refine Fr.setCell ?_ (Or.inr (by simp; try omega)) _))))) st).mono ?_
      rw [HE3.out]
      rintro e w4 ⟨rfl, h9⟩
      (try clear x0 x1 x2 x3 x4 x5 x6 x7 xl Hx y0 y1 yl Hy z0 z1 zl Hz)
      have hx_ := (h9.fr.block (W.heap.size) (by first | (simp; done) | (simp; omega)) (by simp)).trans (show _ = some (.cells #[.int .i64 s, .slice a ns.length c, .int .i64 node, .bool nx, .slice ax dx.length cx, .bool ny, .slice ay dy.length cy, .int .i64 st] 58 (0, 0)) by (repeat (first | rw [if_pos (by omega)] | rw [if_neg (by omega)] | rw [hp_drew] | rw [hp_drewN] | rw [hp_alloc_size] | rw [hp_setCell_size] | rw [hp_alloc] | rw [hp_setCell] | rw [Option.map_some] | rw [upd_cells] | rw [List.set_cons_zero] | rw [List.set_cons_succ] | rfl)))
      have x0 := heap_eq_cell hx_ 0
      have x1 := heap_eq_cell hx_ 1
      have x2 := heap_eq_cell hx_ 2
      have x3 := heap_eq_cell hx_ 3
      have x4 := heap_eq_cell hx_ 4
      have x5 := heap_eq_cell hx_ 5
      have x6 := heap_eq_cell hx_ 6
      have x7 := heap_eq_cell hx_ 7
      have xl := lt_of_block hx_
      have Hx := Lib.hid hx_
      clear hx_
      have hy_ := (h9.fr.block (W.heap.size + 1) (by first | (simp; done) | (simp; omega)) (by simp)).trans (show _ = some (.cells #[.bool na, .slice aa da.length ca] 38 (0, 0)) by (repeat (first | rw [if_pos (by omega)] | rw [if_neg (by omega)] | rw [hp_drew] | rw [hp_drewN] | rw [hp_alloc_size] | rw [hp_setCell_size] | rw [hp_alloc] | rw [hp_setCell] | rw [Option.map_some] | rw [upd_cells] | rw [List.set_cons_zero] | rw [List.set_cons_succ] | rfl)))
      have y0 := heap_eq_cell hy_ 0
      have y1 := heap_eq_cell hy_ 1
      have yl := lt_of_block hy_
      have Hy := Lib.hid hy_
      clear hy_
      have hz_ := (h9.fr.block (W.heap.size + 2) (by first | (simp; done) | (simp; omega)) (by simp)).trans (show _ = some (.cells #[.bool nb, .slice ab db.length cb] 38 (0, 0)) by (repeat (first | rw [if_pos (by omega)] | rw [if_neg (by omega)] | rw [hp_drew] | rw [hp_drewN] | rw [hp_alloc_size] | rw [hp_setCell_size] | rw [hp_alloc] | rw [hp_setCell] | rw [Option.map_some] | rw [upd_cells] | rw [List.set_cons_zero] | rw [List.set_cons_succ] | rfl)))
      have z0 := heap_eq_cell hz_ 0
      have z1 := heap_eq_cell hz_ 1
      have zl := lt_of_block hz_
      have Hz := Lib.hid hz_
      clear hz_
      have H4 := Lib.hid h9
      clear h9 H3
      go_wp2_with fail
      refine (awake_q _).mono ?_
      rintro e w9 ⟨rfl, hf9⟩
      have Hf9 := Lib.hid (Fr.trans0 (by (repeat (first | exact Fr.refl _ _ | assumption | apply Fr.drewN | apply Fr.drew | apply Fr.alloc | refine Fr.setCell ?_ (Or.inr (by simp; try omega)) _)) : Fr [] W _) (H4.out.fr.trans0 (Fr.trans0 (by (repeat (first | exact Fr.refl _ _ | assumption | apply Fr.drewN | apply Fr.drew | apply Fr.alloc | refine Fr.setCell ?_ (Or.inr (by simp; try omega)) _))) hf9)))
      clear hf9
      go_wp2
      go_ret
      exact ⟨rfl, Hf9.out⟩
    ·
      go_enter Try.func5, Try.ntmps5
      go_wp2_with fail
      refine (HLD.out _ (by (repeat (first | exact Fr.refl _ _ | assumption | apply Fr.drewN | apply Fr.drew | apply Fr.alloc | refine Fr.setCell ?_ (Or.inr (by simp; try omega)) _)))).mono ?_
      rintro e w1 ⟨h1, _⟩
      obtain ⟨b, r, rfl, h9⟩ := h1 Hok.out
      (try clear x0 x1 x2 x3 x4 x5 x6 x7 xl Hx y0 y1 yl Hy z0 z1 zl Hz)
      have hx_ := (h9.fr.block (W.heap.size) (by first | (simp; done) | (simp; omega)) (by simp)).trans (show _ = some (.cells #[.int .i64 s, .slice a ns.length c, .int .i64 node, .bool nx, .slice ax dx.length cx, .bool ny, .slice ay dy.length cy, .int .i64 st] 58 (0, 0)) by (repeat (first | rw [if_pos (by omega)] | rw [if_neg (by omega)] | rw [hp_drew] | rw [hp_drewN] | rw [hp_alloc_size] | rw [hp_setCell_size] | rw [hp_alloc] | rw [hp_setCell] | rw [Option.map_some] | rw [upd_cells] | rw [List.set_cons_zero] | rw [List.set_cons_succ] | rfl)))
      have x0 := heap_eq_cell hx_ 0
      have x1 := heap_eq_cell hx_ 1
      have x2 := heap_eq_cell hx_ 2
      have x3 := heap_eq_cell hx_ 3
      have x4 := heap_eq_cell hx_ 4
      have x5 := heap_eq_cell hx_ 5
      have x6 := heap_eq_cell hx_ 6
      have x7 := heap_eq_cell hx_ 7
      have xl := lt_of_block hx_
      have Hx := Lib.hid hx_
      clear hx_
      have hy_ := (h9.fr.block (W.heap.size + 1) (by first | (simp; done) | (simp; omega)) (by simp)).trans (show _ = some (.cells #[.bool na, .slice aa da.length ca] 38 (0, 0)) by (repeat (first | rw [if_pos (by omega)] | rw [if_neg (by omega)] | rw [hp_drew] | rw [hp_drewN] | rw [hp_alloc_size] | rw [hp_setCell_size] | rw [hp_alloc] | rw [hp_setCell] | rw [Option.map_some] | rw [upd_cells] | rw [List.set_cons_zero] | rw [List.set_cons_succ] | rfl)))
      have y0 := heap_eq_cell hy_ 0
      have y1 := heap_eq_cell hy_ 1
      have yl := lt_of_block hy_
      have Hy := Lib.hid hy_
      clear hy_
      have hz_ := (h9.fr.block (W.heap.size + 2) (by first | (simp; done) | (simp; omega)) (by simp)).trans (show _ = some (.cells #[.bool nb, .slice ab db.length cb] 38 (0, 0)) by (repeat (first | rw [if_pos (by omega)] | rw [if_neg (by omega)] | rw [hp_drew] | rw [hp_drewN] | rw [hp_alloc_size] | rw [hp_setCell_size] | rw [hp_alloc] | rw [hp_setCell] | rw [Option.map_some] | rw [upd_cells] | rw [List.set_cons_zero] | rw [List.set_cons_succ] | rfl)))
      have z0 := heap_eq_cell hz_ 0
      have z1 := heap_eq_cell hz_ 1
      have zl := lt_of_block hz_
      have Hz := Lib.hid hz_
      clear hz_
      have H1 := Lib.hid h9
      clear h1 h9
      go_wp2_with fail
      refine (Get_q H1.out node (HIN.out.2.2.1.fr (Fr.trans0 (by (repeat (first | exact Fr.refl _ _ | assumption | apply Fr.drewN | apply Fr.drew | apply Fr.alloc | refine Fr.setCell ?_ (Or.inr (by simp; try omega)) _))) H1.out.fr)) (HIN.out.2.2.2.fr (Fr.trans0 (by (repeat (first | exact Fr.refl _ _ | assumption | apply Fr.drewN | apply Fr.drew | apply Fr.alloc | refine Fr.setCell ?_ (Or.inr (by simp; try omega)) _))) H1.out.fr))).mono ?_
      rw [HE1.out]
      rintro e w2 ⟨rfl, h9, _⟩
      (try clear x0 x1 x2 x3 x4 x5 x6 x7 xl Hx y0 y1 yl Hy z0 z1 zl Hz)
      have hx_ := (h9.fr.block (W.heap.size) (by first | (simp; done) | (simp; omega)) (by simp)).trans (show _ = some (.cells #[.int .i64 s, .slice a ns.length c, .int .i64 node, .bool nx, .slice ax dx.length cx, .bool ny, .slice ay dy.length cy, .int .i64 st] 58 (0, 0)) by (repeat (first | rw [if_pos (by omega)] | rw [if_neg (by omega)] | rw [hp_drew] | rw [hp_drewN] | rw [hp_alloc_size] | rw [hp_setCell_size] | rw [hp_alloc] | rw [hp_setCell] | rw [Option.map_some] | rw [upd_cells] | rw [List.set_cons_zero] | rw [List.set_cons_succ] | rfl)))
      have x0 := heap_eq_cell hx_ 0
      have x1 := heap_eq_cell hx_ 1
      have x2 := heap_eq_cell hx_ 2
      have x3 := heap_eq_cell hx_ 3
      have x4 := heap_eq_cell hx_ 4
      have x5 := heap_eq_cell hx_ 5
      have x6 := heap_eq_cell hx_ 6
      have x7 := heap_eq_cell hx_ 7
      have xl := lt_of_block hx_
      have Hx := Lib.hid hx_
      clear hx_
      have hy_ := (h9.fr.block (W.heap.size + 1) (by first | (simp; done) | (simp; omega)) (by simp)).trans (show _ = some (.cells #[.bool na, .slice aa da.length ca] 38 (0, 0)) by (repeat (first | rw [if_pos (by omega)] | rw [if_neg (by omega)] | rw [hp_drew] | rw [hp_drewN] | rw [hp_alloc_size] | rw [hp_setCell_size] | rw [hp_alloc] | rw [hp_setCell] | rw [Option.map_some] | rw [upd_cells] | rw [List.set_cons_zero] | rw [List.set_cons_succ] | rfl)))
      have y0 := heap_eq_cell hy_ 0
      have y1 := heap_eq_cell hy_ 1
      have yl := lt_of_block hy_
      have Hy := Lib.hid hy_
      clear hy_
      have hz_ := (h9.fr.block (W.heap.size + 2) (by first | (simp; done) | (simp; omega)) (by simp)).trans (show _ = some (.cells #[.bool nb, .slice ab db.length cb] 38 (0, 0)) by (repeat (first | rw [if_pos (by omega)] | rw [if_neg (by omega)] | rw [hp_drew] | rw [hp_drewN] | rw [hp_alloc_size] | rw [hp_setCell_size] | rw [hp_alloc] | rw [hp_setCell] | rw [Option.map_some] | rw [upd_cells] | rw [List.set_cons_zero] | rw [List.set_cons_succ] | rfl)))
      have z0 := heap_eq_cell hz_ 0
      have z1 := heap_eq_cell hz_ 1
      have zl := lt_of_block hz_
      have Hz := Lib.hid hz_
      clear hz_
      have H2 := Lib.hid h9
      clear h9 H1
      go_wp2_with fail
      refine (Get_q H2.out node (HIN.out.1.fr (Fr.trans0 (by (repeat (first | exact Fr.refl _ _ | assumption | apply Fr.drewN | apply Fr.drew | apply Fr.alloc | refine Fr.setCell ?_ (Or.inr (by simp; try omega)) _))) H2.out.fr)) (HIN.out.2.1.fr (Fr.trans0 (by (repeat (first | exact Fr.refl _ _ | assumption | apply Fr.drewN | apply Fr.drew | apply Fr.alloc | refine Fr.setCell ?_ (Or.inr (by simp; try omega)) _))) H2.out.fr))).mono ?_
      rw [HE2.out]
      rintro e w3 ⟨rfl, h9, _⟩
      (try clear x0 x1 x2 x3 x4 x5 x6 x7 xl Hx y0 y1 yl Hy z0 z1 zl Hz)
      have hx_ := (h9.fr.block (W.heap.size) (by first | (simp; done) | (simp; omega)) (by simp)).trans (show _ = some (.cells #[.int .i64 s, .slice a ns.length c, .int .i64 node, .bool nx, .slice ax dx.length cx, .bool ny, .slice ay dy.length cy, .int .i64 st] 58 (0, 0)) by (repeat (first | rw [if_pos (by omega)] | rw [if_neg (by omega)] | rw [hp_drew] | rw [hp_drewN] | rw [hp_alloc_size] | rw [hp_setCell_size] | rw [hp_alloc] | rw [hp_setCell] | rw [Option.map_some] | rw [upd_cells] | rw [List.set_cons_zero] | rw [List.set_cons_succ] | rfl)))
      have x0 := heap_eq_cell hx_ 0
      have x1 := heap_eq_cell hx_ 1
      have x2 := heap_eq_cell hx_ 2
      have x3 := heap_eq_cell hx_ 3
      have x4 := heap_eq_cell hx_ 4
      have x5 := heap_eq_cell hx_ 5
      have x6 := heap_eq_cell hx_ 6
      have x7 := heap_eq_cell hx_ 7
      have xl := lt_of_block hx_
      have Hx := Lib.hid hx_
      clear hx_
      have hy_ := (h9.fr.block (W.heap.size + 1) (by first | (simp; done) | (simp; omega)) (by simp)).trans (show _ = some (.cells #[.bool na, .slice aa da.length ca] 38 (0, 0)) by (repeat (first | rw [if_pos (by omega)] | rw [if_neg (by omega)] | rw [hp_drew] | rw [hp_drewN] | rw [hp_alloc_size] | rw [hp_setCell_size] | rw [hp_alloc] | rw [hp_setCell] | rw [Option.map_some] | rw [upd_cells] | rw [List.set_cons_zero] | rw [List.set_cons_succ] | rfl)))
      have y0 := heap_eq_cell hy_ 0
      have y1 := heap_eq_cell hy_ 1
      have yl := lt_of_block hy_
      have Hy := Lib.hid hy_
      clear hy_
      have hz_ := (h9.fr.block (W.heap.size + 2) (by first | (simp; done) | (simp; omega)) (by simp)).trans (show _ = some (.cells #[.bool nb, .slice ab db.length cb] 38 (0, 0)) by (repeat (first | rw [if_pos (by omega)] | rw [if_neg (by omega)] | rw [hp_drew] | rw [hp_drewN] | rw [hp_alloc_size] | rw [hp_setCell_size] | rw [hp_alloc] | rw [hp_setCell] | rw [Option.map_some] | rw [upd_cells] | rw [List.set_cons_zero] | rw [List.set_cons_succ] | rfl)))
      have z0 := heap_eq_cell hz_ 0
      have z1 := heap_eq_cell hz_ 1
      have zl := lt_of_block hz_
      have Hz := Lib.hid hz_
      clear hz_
      have H3 := Lib.hid h9
      clear h9 H2
      go_wp2_with fail
      refine (Set_q H3.out node (BigSrc.base (HIN.out.1.fr (by (repeat (first | exact Fr.refl _ _ | assumption | apply Fr.drewN | apply Fr.drew | apply Fr.alloc | refine Fr.setCell ?_ (Or.inr (by simp; try omega)) _))))) (BigSrc.base (HIN.out.2.1.fr (by (repeat (first | exact Fr.refl _ _ | assumption | apply Fr.drewN | apply Fr.drew | apply Fr.alloc | refine Fr.setCell ?_ (Or.inr (by simp; try omega)) _))))) st).mono ?_
      rw [HE3.out]
      rintro e w4 ⟨rfl, h9⟩
      (try clear x0 x1 x2 x3 x4 x5 x6 x7 xl Hx y0 y1 yl Hy z0 z1 zl Hz)
      have hx_ := (h9.fr.block (W.heap.size) (by first | (simp; done) | (simp; omega)) (by simp)).trans (show _ = some (.cells #[.int .i64 s, .slice a ns.length c, .int .i64 node, .bool nx, .slice ax dx.length cx, .bool ny, .slice ay dy.length cy, .int .i64 st] 58 (0, 0)) by (repeat (first | rw [if_pos (by omega)] | rw [if_neg (by omega)] | rw [hp_drew] | rw [hp_drewN] | rw [hp_alloc_size] | rw [hp_setCell_size] | rw [hp_alloc] | rw [hp_setCell] | rw [Option.map_some] | rw [upd_cells] | rw [List.set_cons_zero] | rw [List.set_cons_succ] | rfl)))
      have x0 := heap_eq_cell hx_ 0
      have x1 := heap_eq_cell hx_ 1
      have x2 := heap_eq_cell hx_ 2
      have x3 := heap_eq_cell hx_ 3
      have x4 := heap_eq_cell hx_ 4
      have x5 := heap_eq_cell hx_ 5
      have x6 := heap_eq_cell hx_ 6
      have x7 := heap_eq_cell hx_ 7
      have xl := lt_of_block hx_
      have Hx := Lib.hid hx_
      clear hx_
      have hy_ := (h9.fr.block (W.heap.size + 1) (by first | (simp; done) | (simp; omega)) (by simp)).trans (show _ = some (.cells #[.bool na, .slice aa da.length ca] 38 (0, 0)) by (repeat (first | rw [if_pos (by omega)] | rw [if_neg (by omega)] | rw [hp_drew] | rw [hp_drewN] | rw [hp_alloc_size] | rw [hp_setCell_size] | rw [hp_alloc] | rw [hp_setCell] | rw [Option.map_some] | rw [upd_cells] | rw [List.set_cons_zero] | rw [List.set_cons_succ] | rfl)))
      have y0 := heap_eq_cell hy_ 0
      have y1 := heap_eq_cell hy_ 1
      have yl := lt_of_block hy_
      have Hy := Lib.hid hy_
      clear hy_
      have hz_ := (h9.fr.block (W.heap.size + 2) (by first | (simp; done) | (simp; omega)) (by simp)).trans (show _ = some (.cells #[.bool nb, .slice ab db.length cb] 38 (0, 0)) by (repeat (first | rw [if_pos (by omega)] | rw [if_neg (by omega)] | rw [hp_drew] | rw [hp_drewN] | rw [hp_alloc_size] | rw [hp_setCell_size] | rw [hp_alloc] | rw [hp_setCell] | rw [Option.map_some] | rw [upd_cells] | rw [List.set_cons_zero] | rw [List.set_cons_succ] | rfl)))
      have z0 := heap_eq_cell hz_ 0
      have z1 := heap_eq_cell hz_ 1
      have zl := lt_of_block hz_
      have Hz := Lib.hid hz_
      clear hz_
      have H4 := Lib.hid h9
      clear h9 H3
      go_wp2_with fail
      refine (awake_q _).mono ?_
      rintro e w9 ⟨rfl, hf9⟩
      have Hf9 := Lib.hid (Fr.trans0 (by (repeat (first | exact Fr.refl _ _ | assumption | apply Fr.drewN | apply Fr.drew | apply Fr.alloc | refine Fr.setCell ?_ (Or.inr (by simp; try omega)) _)) : Fr [] W _) (H4.out.fr.trans0 (Fr.trans0 (by (repeat (first | exact Fr.refl _ _ | assumption | apply Fr.drewN | apply Fr.drew | apply Fr.alloc | refine Fr.setCell ?_ (Or.inr (by simp; try omega)) _))) hf9)))
      clear hf9
      go_wp2
      go_ret
      exact ⟨rfl, Hf9.out⟩
    ·
      go_enter Try.func5, Try.ntmps5
      go_wp2_with fail
      refine (HLD.out _ (by (repeat (first | exact Fr.refl _ _ | assumption | apply Fr.drewN | apply Fr.drew | apply Fr.alloc | refine Fr.setCell ?_ (Or.inr (by simp; try omega)) _)))).mono ?_
      rintro e w1 ⟨h1, _⟩
      obtain ⟨b, r, rfl, h9⟩ := h1 Hok.out
      (try clear x0 x1 x2 x3 x4 x5 x6 x7 xl Hx y0 y1 yl Hy z0 z1 zl Hz)
      have hx_ := (h9.fr.block (W.heap.size) (by first | (simp; done) | (simp; omega)) (by simp)).trans (show _ = some (.cells #[.int .i64 s, .slice a ns.length c, .int .i64 node, .bool nx, .slice ax dx.length cx, .bool ny, .slice ay dy.length cy, .int .i64 st] 58 (0, 0)) by (repeat (first | rw [if_pos (by omega)] | rw [if_neg (by omega)] | rw [hp_drew] | rw [hp_drewN] | rw [hp_alloc_size] | rw [hp_setCell_size] | rw [hp_alloc] | rw [hp_setCell] | rw [Option.map_some] | rw [upd_cells] | rw [List.set_cons_zero] | rw [List.set_cons_succ] | rfl)))
      have x0 := heap_eq_cell hx_ 0
      have x1 := heap_eq_cell hx_ 1
      have x2 := heap_eq_cell hx_ 2
      have x3 := heap_eq_cell hx_ 3
      have x4 := heap_eq_cell hx_ 4
      have x5 := heap_eq_cell hx_ 5
      have x6 := heap_eq_cell hx_ 6
      have x7 := heap_eq_cell hx_ 7
      have xl := lt_of_block hx_
      have Hx := Lib.hid hx_
      clear hx_
      have hy_ := (h9.fr.block (W.heap.size + 1) (by first | (simp; done) | (simp; omega)) (by simp)).trans (show _ = some (.cells #[.bool na, .slice aa da.length ca] 38 (0, 0)) by (repeat (first | rw [if_pos (by omega)] | rw [if_neg (by omega)] | rw [hp_drew] | rw [hp_drewN] | rw [hp_alloc_size] | rw [hp_setCell_size] | rw [hp_alloc] | rw [hp_setCell] | rw [Option.map_some] | rw [upd_cells] | rw [List.set_cons_zero] | rw [List.set_cons_succ] | rfl)))
      have y0 := heap_eq_cell hy_ 0
      have y1 := heap_eq_cell hy_ 1
      have yl := lt_of_block hy_
      have Hy := Lib.hid hy_
      clear hy_
      have hz_ := (h9.fr.block (W.heap.size + 2) (by first | (simp; done) | (simp; omega)) (by simp)).trans (show _ = some (.cells #[.bool nb, .slice ab db.length cb] 38 (0, 0)) by (repeat (first | rw [if_pos (by omega)] | rw [if_neg (by omega)] | rw [hp_drew] | rw [hp_drewN] | rw [hp_alloc_size] | rw [hp_setCell_size] | rw [hp_alloc] | rw [hp_setCell] | rw [Option.map_some] | rw [upd_cells] | rw [List.set_cons_zero] | rw [List.set_cons_succ] | rfl)))
      have z0 := heap_eq_cell hz_ 0
      have z1 := heap_eq_cell hz_ 1
      have zl := lt_of_block hz_
      have Hz := Lib.hid hz_
      clear hz_
      have H1 := Lib.hid h9
      clear h1 h9
      go_wp2_with fail
      refine (Get_q H1.out node (HIN.out.2.2.1.fr (Fr.trans0 (by (repeat (first | exact Fr.refl _ _ | assumption | apply Fr.drewN | apply Fr.drew | apply Fr.alloc | refine Fr.setCell ?_ (Or.inr (by simp; try omega)) _))) H1.out.fr)) (HIN.out.2.2.2.fr (Fr.trans0 (by (repeat (first | exact Fr.refl _ _ | assumption | apply Fr.drewN | apply Fr.drew | apply Fr.alloc | refine Fr.setCell ?_ (Or.inr (by simp; try omega)) _))) H1.out.fr))).mono ?_
      rw [HE1.out]
      rintro e w2 ⟨rfl, h9, _⟩
      (try clear x0 x1 x2 x3 x4 x5 x6 x7 xl Hx y0 y1 yl Hy z0 z1 zl Hz)
      have hx_ := (h9.fr.block (W.heap.size) (by first | (simp; done) | (simp; omega)) (by simp)).trans (show _ = some (.cells #[.int .i64 s, .slice a ns.length c, .int .i64 node, .bool nx, .slice ax dx.length cx, .bool ny, .slice ay dy.length cy, .int .i64 st] 58 (0, 0)) by (repeat (first | rw [if_pos (by omega)] | rw [if_neg (by omega)] | rw [hp_drew] | rw [hp_drewN] | rw [hp_alloc_size] | rw [hp_setCell_size] | rw [hp_alloc] | rw [hp_setCell] | rw [Option.map_some] | rw [upd_cells] | rw [List.set_cons_zero] | rw [List.set_cons_succ] | rfl)))
      have x0 := heap_eq_cell hx_ 0
      have x1 := heap_eq_cell hx_ 1
      have x2 := heap_eq_cell hx_ 2
      have x3 := heap_eq_cell hx_ 3
      have x4 := heap_eq_cell hx_ 4
      have x5 := heap_eq_cell hx_ 5
      have x6 := heap_eq_cell hx_ 6
      have x7 := heap_eq_cell hx_ 7
      have xl := lt_of_block hx_
      have Hx := Lib.hid hx_
      clear hx_
      have hy_ := (h9.fr.block (W.heap.size + 1) (by first | (simp; done) | (simp; omega)) (by simp)).trans (show _ = some (.cells #[.bool na, .slice aa da.length ca] 38 (0, 0)) by (repeat (first | rw [if_pos (by omega)] | rw [if_neg (by omega)] | rw [hp_drew] | rw [hp_drewN] | rw [hp_alloc_size] | rw [hp_setCell_size] | rw [hp_alloc] | rw [hp_setCell] | rw [Option.map_some] | rw [upd_cells] | rw [List.set_cons_zero] | rw [List.set_cons_succ] | rfl)))
      have y0 := heap_eq_cell hy_ 0
      have y1 := heap_eq_cell hy_ 1
      have yl := lt_of_block hy_
      have Hy := Lib.hid hy_
      clear hy_
      have hz_ := (h9.fr.block (W.heap.size + 2) (by first | (simp; done) | (simp; omega)) (by simp)).trans (show _ = some (.cells #[.bool nb, .slice ab db.length cb] 38 (0, 0)) by (repeat (first | rw [if_pos (by omega)] | rw [if_neg (by omega)] | rw [hp_drew] | rw [hp_drewN] | rw [hp_alloc_size] | rw [hp_setCell_size] | rw [hp_alloc] | rw [hp_setCell] | rw [Option.map_some] | rw [upd_cells] | rw [List.set_cons_zero] | rw [List.set_cons_succ] | rfl)))
      have z0 := heap_eq_cell hz_ 0
      have z1 := heap_eq_cell hz_ 1
      have zl := lt_of_block hz_
      have Hz := Lib.hid hz_
      clear hz_
      have H2 := Lib.hid h9
      clear h9 H1
      go_wp2_with fail
      refine (Get_q H2.out node (HIN.out.1.fr (Fr.trans0 (by (repeat (first | exact Fr.refl _ _ | assumption | apply Fr.drewN | apply Fr.drew | apply Fr.alloc | refine Fr.setCell ?_ (Or.inr (by simp; try omega)) _))) H2.out.fr)) (HIN.out.2.1.fr (Fr.trans0 (by (repeat (first | exact Fr.refl _ _ | assumption | apply Fr.drewN | apply Fr.drew | apply Fr.alloc | refine Fr.setCell ?_ (Or.inr (by simp; try omega)) _))) H2.out.fr))).mono ?_
      rw [HE2.out]
      rintro e w3 ⟨rfl, h9, _⟩
      (try clear x0 x1 x2 x3 x4 x5 x6 x7 xl Hx y0 y1 yl Hy z0 z1 zl Hz)
      have hx_ := (h9.fr.block (W.heap.size) (by first | (simp; done) | (simp; omega)) (by simp)).trans (show _ = some (.cells #[.int .i64 s, .slice a ns.length c, .int .i64 node, .bool nx, .slice ax dx.length cx, .bool ny, .slice ay dy.length cy, .int .i64 st] 58 (0, 0)) by (repeat (first | rw [if_pos (by omega)] | rw [if_neg (by omega)] | rw [hp_drew] | rw [hp_drewN] | rw [hp_alloc_size] | rw [hp_setCell_size] | rw [hp_alloc] | rw [hp_setCell] | rw [Option.map_some] | rw [upd_cells] | rw [List.set_cons_zero] | rw [List.set_cons_succ] | rfl)))
      have x0 := heap_eq_cell hx_ 0
      have x1 := heap_eq_cell hx_ 1
      have x2 := heap_eq_cell hx_ 2
      have x3 := heap_eq_cell hx_ 3
      have x4 := heap_eq_cell hx_ 4
      have x5 := heap_eq_cell hx_ 5
      have x6 := heap_eq_cell hx_ 6
      have x7 := heap_eq_cell hx_ 7
      have xl := lt_of_block hx_
      have Hx := Lib.hid hx_
      clear hx_
      have hy_ := (h9.fr.block (W.heap.size + 1) (by first | (simp; done) | (simp; omega)) (by simp)).trans (show _ = some (.cells #[.bool na, .slice aa da.length ca] 38 (0, 0)) by (repeat (first | rw [if_pos (by omega)] | rw [if_neg (by omega)] | rw [hp_drew] | rw [hp_drewN] | rw [hp_alloc_size] | rw [hp_setCell_size] | rw [hp_alloc] | rw [hp_setCell] | rw [Option.map_some] | rw [upd_cells] | rw [List.set_cons_zero] | rw [List.set_cons_succ] | rfl)))
      have y0 := heap_eq_cell hy_ 0
      have y1 := heap_eq_cell hy_ 1
      have yl := lt_of_block hy_
      have Hy := Lib.hid hy_
      clear hy_
      have hz_ := (h9.fr.block (W.heap.size + 2) (by first | (simp; done) | (simp; omega)) (by simp)).trans (show _ = some (.cells #[.bool nb, .slice ab db.length cb] 38 (0, 0)) by (repeat (first | rw [if_pos (by omega)] | rw [if_neg (by omega)] | rw [hp_drew] | rw [hp_drewN] | rw [hp_alloc_size] | rw [hp_setCell_size] | rw [hp_alloc] | rw [hp_setCell] | rw [Option.map_some] | rw [upd_cells] | rw [List.set_cons_zero] | rw [List.set_cons_succ] | rfl)))
      have z0 := heap_eq_cell hz_ 0
      have z1 := heap_eq_cell hz_ 1
      have zl := lt_of_block hz_
      have Hz := Lib.hid hz_
      clear hz_
      have H3 := Lib.hid h9
      clear h9 H2
      go_wp2_with fail
      refine (Set_q H3.out node (BigSrc.base (HIN.out.1.fr (by (repeat (first | exact Fr.refl _ _ | assumption | apply Fr.drewN | apply Fr.drew | apply Fr.alloc | refine Fr.setCell ?_ (Or.inr (by simp; try omega)) _))))) (BigSrc.base (HIN.out.2.1.fr (by (repeat (first | exact Fr.refl _ _ | assumption | apply Fr.drewN | apply Fr.drew | apply Fr.alloc | refine Fr.setCell ?_ (Or.inr (by simp; try omega)) _))))) st).mono ?_
      rw [HE3.out]
      rintro e w4 ⟨rfl, h9⟩
      (try clear x0 x1 x2 x3 x4 x5 x6 x7 xl Hx y0 y1 yl Hy z0 z1 zl Hz)
      have hx_ := (h9.fr.block (W.heap.size) (by first | (simp; done) | (simp; omega)) (by simp)).trans (show _ = some (.cells #[.int .i64 s, .slice a ns.length c, .int .i64 node, .bool nx, .slice ax dx.length cx, .bool ny, .slice ay dy.length cy, .int .i64 st] 58 (0, 0)) by (repeat (first | rw [if_pos (by omega)] | rw [if_neg (by omega)] | rw [hp_drew] | rw [hp_drewN] | rw [hp_alloc_size] | rw [hp_setCell_size] | rw [hp_alloc] | rw [hp_setCell] | rw [Option.map_some] | rw [upd_cells] | rw [List.set_cons_zero] | rw [List.set_cons_succ] | rfl)))
      have x0 := heap_eq_cell hx_ 0
      have x1 := heap_eq_cell hx_ 1
      have x2 := heap_eq_cell hx_ 2
      have x3 := heap_eq_cell hx_ 3
      have x4 := heap_eq_cell hx_ 4
      have x5 := heap_eq_cell hx_ 5
      have x6 := heap_eq_cell hx_ 6
      have x7 := heap_eq_cell hx_ 7
      have xl := lt_of_block hx_
      have Hx := Lib.hid hx_
      clear hx_
      have hy_ := (h9.fr.block (W.heap.size + 1) (by first | (simp; done) | (simp; omega)) (by simp)).trans (show _ = some (.cells #[.bool na, .slice aa da.length ca] 38 (0, 0)) by (repeat (first | rw [if_pos (by omega)] | rw [if_neg (by omega)] | rw [hp_drew] | rw [hp_drewN] | rw [hp_alloc_size] | rw [hp_setCell_size] | rw [hp_alloc] | rw [hp_setCell] | rw [Option.map_some] | rw [upd_cells] | rw [List.set_cons_zero] | rw [List.set_cons_succ] | rfl)))
      have y0 := heap_eq_cell hy_ 0
      have y1 := heap_eq_cell hy_ 1
      have yl := lt_of_block hy_
      have Hy := Lib.hid hy_
      clear hy_
      have hz_ := (h9.fr.block (W.heap.size + 2) (by first | (simp; done) | (simp; omega)) (by simp)).trans (show _ = some (.cells #[.bool nb, .slice ab db.length cb] 38 (0, 0)) by (repeat (first | rw [if_pos (by omega)] | rw [if_neg (by omega)] | rw [hp_drew] | rw [hp_drewN] | rw [hp_alloc_size] | rw [hp_setCell_size] | rw [hp_alloc] | rw [hp_setCell] | rw [Option.map_some] | rw [upd_cells] | rw [List.set_cons_zero] | rw [List.set_cons_succ] | rfl)))
      have z0 := heap_eq_cell hz_ 0
      have z1 := heap_eq_cell hz_ 1
      have zl := lt_of_block hz_
      have Hz := Lib.hid hz_
      clear hz_
      have H4 := Lib.hid h9
      clear h9 H3
      go_wp2_with fail
      refine (awake_q _).mono ?_
      rintro e w9 ⟨rfl, hf9⟩
      have Hf9 := Lib.hid (Fr.trans0 (by (repeat (first | exact Fr.refl _ _ | assumption | apply Fr.drewN | apply Fr.drew | apply Fr.alloc | refine Fr.setCell ?_ (Or.inr (by simp; try omega)) _)) : Fr [] W _) (H4.out.fr.trans0 (Fr.trans0 (by (repeat (first | exact Fr.refl _ _ | assumption | apply Fr.drewN | apply Fr.drew | apply Fr.alloc | refine Fr.setCell ?_ (Or.inr (by simp; try omega)) _))) hf9)))
      clear hf9
      go_wp2
      go_ret
      exact ⟨rfl, Hf9.out⟩
  by_cases hst : 0 ≤ st ∧ st < s
  case neg =>
    obtain ⟨old, hE2⟩ : ∃ old, getQ s ns node nx dx ny dy = (old, 0) := ⟨(getQ s ns node nx dx ny dy).1, by unfold getQ; rw [if_neg (by simpa using hp)]⟩
    have HE2 := Lib.hid hE2
    have HE3 := Lib.hid (show changeQ s ns node nx dx ny dy st = ((0, 10), ns) by unfold changeQ; rw [if_neg (by simpa using hp), if_pos hst])
    clear hE1 hE2 hp hst hlen hg dga dgb dgx dgy
    go_enter Try.func5, Try.ntmps5
    go_wp2_with fail
    refine (HLD.out _ (by (repeat (first | exact Fr.refl _ _ | assumption | apply Fr.drewN | apply Fr.drew | apply Fr.alloc | refine Fr.setCell ?_ (Or.inr (by simp; try omega)) _)))).mono ?_
    rintro e w1 ⟨h1, _⟩
    obtain ⟨b, r, rfl, h9⟩ := h1 Hok.out
    (try clear x0 x1 x2 x3 x4 x5 x6 x7 xl Hx y0 y1 yl Hy z0 z1 zl Hz)
    have hx_ := (h9.fr.block (W.heap.size) (by first | (simp; done) | (simp; omega)) (by simp)).trans (show _ = some (.cells #[.int .i64 s, .slice a ns.length c, .int .i64 node, .bool nx, .slice ax dx.length cx, .bool ny, .slice ay dy.length cy, .int .i64 st] 58 (0, 0)) by (repeat (first | rw [if_pos (by omega)] | rw [if_neg (by omega)] | rw [hp_drew] | rw [hp_drewN] | rw [hp_alloc_size] | rw [hp_setCell_size] | rw [hp_alloc] | rw [hp_setCell] | rw [Option.map_some] | rw [upd_cells] | rw [List.set_cons_zero] | rw [List.set_cons_succ] | rfl)))
    have x0 := heap_eq_cell hx_ 0
    have x1 := heap_eq_cell hx_ 1
    have x2 := heap_eq_cell hx_ 2
    have x3 := heap_eq_cell hx_ 3
    have x4 := heap_eq_cell hx_ 4
    have x5 := heap_eq_cell hx_ 5
    have x6 := heap_eq_cell hx_ 6
    have x7 := heap_eq_cell hx_ 7
    have xl := lt_of_block hx_
    have Hx := Lib.hid hx_
    clear hx_
    have hy_ := (h9.fr.block (W.heap.size + 1) (by first | (simp; done) | (simp; omega)) (by simp)).trans (show _ = some (.cells #[.bool na, .slice aa da.length ca] 38 (0, 0)) by (repeat (first | rw [if_pos (by omega)] | rw [if_neg (by omega)] | rw [hp_drew] | rw [hp_drewN] | rw [hp_alloc_size] | rw [hp_setCell_size] | rw [hp_alloc] | rw [hp_setCell] | rw [Option.map_some] | rw [upd_cells] | rw [List.set_cons_zero] | rw [List.set_cons_succ] | rfl)))
    have y0 := heap_eq_cell hy_ 0
    have y1 := heap_eq_cell hy_ 1
    have yl := lt_of_block hy_
    have Hy := Lib.hid hy_
    clear hy_
    have hz_ := (h9.fr.block (W.heap.size + 2) (by first | (simp; done) | (simp; omega)) (by simp)).trans (show _ = some (.cells #[.bool nb, .slice ab db.length cb] 38 (0, 0)) by (repeat (first | rw [if_pos (by omega)] | rw [if_neg (by omega)] | rw [hp_drew] | rw [hp_drewN] | rw [hp_alloc_size] | rw [hp_setCell_size] | rw [hp_alloc] | rw [hp_setCell] | rw [Option.map_some] | rw [upd_cells] | rw [List.set_cons_zero] | rw [List.set_cons_succ] | rfl)))
    have z0 := heap_eq_cell hz_ 0
    have z1 := heap_eq_cell hz_ 1
    have zl := lt_of_block hz_
    have Hz := Lib.hid hz_
    clear hz_
    have H1 := Lib.hid h9
    clear h1 h9
    go_wp2_with fail
    refine (Get_q H1.out node (HIN.out.2.2.1.fr (Fr.trans0 (by (repeat (first | exact Fr.refl _ _ | assumption | apply Fr.drewN | apply Fr.drew | apply Fr.alloc | refine Fr.setCell ?_ (Or.inr (by simp; try omega)) _))) H1.out.fr)) (HIN.out.2.2.2.fr (Fr.trans0 (by (repeat (first | exact Fr.refl _ _ | assumption | apply Fr.drewN | apply Fr.drew | apply Fr.alloc | refine Fr.setCell ?_ (Or.inr (by simp; try omega)) _))) H1.out.fr))).mono ?_
    rw [HE1.out]
    rintro e w2 ⟨rfl, h9, _⟩
    (try clear x0 x1 x2 x3 x4 x5 x6 x7 xl Hx y0 y1 yl Hy z0 z1 zl Hz)
    have hx_ := (h9.fr.block (W.heap.size) (by first | (simp; done) | (simp; omega)) (by simp)).trans (show _ = some (.cells #[.int .i64 s, .slice a ns.length c, .int .i64 node, .bool nx, .slice ax dx.length cx, .bool ny, .slice ay dy.length cy, .int .i64 st] 58 (0, 0)) by (repeat (first | rw [if_pos (by omega)] | rw [if_neg (by omega)] | rw [hp_drew] | rw [hp_drewN] | rw [hp_alloc_size] | rw [hp_setCell_size] | rw [hp_alloc] | rw [hp_setCell] | rw [Option.map_some] | rw [upd_cells] | rw [List.set_cons_zero] | rw [List.set_cons_succ] | rfl)))
    have x0 := heap_eq_cell hx_ 0
    have x1 := heap_eq_cell hx_ 1
    have x2 := heap_eq_cell hx_ 2
    have x3 := heap_eq_cell hx_ 3
    have x4 := heap_eq_cell hx_ 4
    have x5 := heap_eq_cell hx_ 5
    have x6 := heap_eq_cell hx_ 6
    have x7 := heap_eq_cell hx_ 7
    have xl := lt_of_block hx_
    have Hx := Lib.hid hx_
    clear hx_
    have hy_ := (h9.fr.block (W.heap.size + 1) (by first | (simp; done) | (simp; omega)) (by simp)).trans (show _ = some (.cells #[.bool na, .slice aa da.length ca] 38 (0, 0)) by (repeat (first | rw [if_pos (by omega)] | rw [if_neg (by omega)] | rw [hp_drew] | rw [hp_drewN] | rw [hp_alloc_size] | rw [hp_setCell_size] | rw [hp_alloc] | rw [hp_setCell] | rw [Option.map_some] | rw [upd_cells] | rw [List.set_cons_zero] | rw [List.set_cons_succ] | rfl)))
    have y0 := heap_eq_cell hy_ 0
    have y1 := heap_eq_cell hy_ 1
    have yl := lt_of_block hy_
    have Hy := Lib.hid hy_
    clear hy_
    have hz_ := (h9.fr.block (W.heap.size + 2) (by first | (simp; done) | (simp; omega)) (by simp)).trans (show _ = some (.cells #[.bool nb, .slice ab db.length cb] 38 (0, 0)) by (repeat (first | rw [if_pos (by omega)] | rw [if_neg (by omega)] | rw [hp_drew] | rw [hp_drewN] | rw [hp_alloc_size] | rw [hp_setCell_size] | rw [hp_alloc] | rw [hp_setCell] | rw [Option.map_some] | rw [upd_cells] | rw [List.set_cons_zero] | rw [List.set_cons_succ] | rfl)))
    have z0 := heap_eq_cell hz_ 0
    have z1 := heap_eq_cell hz_ 1
    have zl := lt_of_block hz_
    have Hz := Lib.hid hz_
    clear hz_
    have H2 := Lib.hid h9
    clear h9 H1
    go_wp2_with fail
    refine (Get_q H2.out node (HIN.out.1.fr (Fr.trans0 (by (repeat (first | exact Fr.refl _ _ | assumption | apply Fr.drewN | apply Fr.drew | apply Fr.alloc | refine Fr.setCell ?_ (Or.inr (by simp; try omega)) _))) H2.out.fr)) (HIN.out.2.1.fr (Fr.trans0 (by (repeat (first | exact Fr.refl _ _ | assumption | apply Fr.drewN | apply Fr.drew | apply Fr.alloc | refine Fr.setCell ?_ (Or.inr (by simp; try omega)) _))) H2.out.fr))).mono ?_
    rw [HE2.out]
    rintro e w3 ⟨rfl, h9, _⟩
    (try clear x0 x1 x2 x3 x4 x5 x6 x7 xl Hx y0 y1 yl Hy z0 z1 zl Hz)
    have hx_ := (h9.fr.block (W.heap.size) (by first | (simp; done) | (simp; omega)) (by simp)).trans (show _ = some (.cells #[.int .i64 s, .slice a ns.length c, .int .i64 node, .bool nx, .slice ax dx.length cx, .bool ny, .slice ay dy.length cy, .int .i64 st] 58 (0, 0)) by (repeat (first | rw [if_pos (by omega)] | rw [if_neg (by omega)] | rw [hp_drew] | rw [hp_drewN] | rw [hp_alloc_size] | rw [hp_setCell_size] | rw [hp_alloc] | rw [hp_setCell] | rw [Option.map_some] | rw [upd_cells] | rw [List.set_cons_zero] | rw [List.set_cons_succ] | rfl)))
    have x0 := heap_eq_cell hx_ 0
    have x1 := heap_eq_cell hx_ 1
    have x2 := heap_eq_cell hx_ 2
    have x3 := heap_eq_cell hx_ 3
    have x4 := heap_eq_cell hx_ 4
    have x5 := heap_eq_cell hx_ 5
    have x6 := heap_eq_cell hx_ 6
    have x7 := heap_eq_cell hx_ 7
    have xl := lt_of_block hx_
    have Hx := Lib.hid hx_
    clear hx_
    have hy_ := (h9.fr.block (W.heap.size + 1) (by first | (simp; done) | (simp; omega)) (by simp)).trans (show _ = some (.cells #[.bool na, .slice aa da.length ca] 38 (0, 0)) by (repeat (first | rw [if_pos (by omega)] | rw [if_neg (by omega)] | rw [hp_drew] | rw [hp_drewN] | rw [hp_alloc_size] | rw [hp_setCell_size] | rw [hp_alloc] | rw [hp_setCell] | rw [Option.map_some] | rw [upd_cells] | rw [List.set_cons_zero] | rw [List.set_cons_succ] | rfl)))
    have y0 := heap_eq_cell hy_ 0
    have y1 := heap_eq_cell hy_ 1
    have yl := lt_of_block hy_
    have Hy := Lib.hid hy_
    clear hy_
    have hz_ := (h9.fr.block (W.heap.size + 2) (by first | (simp; done) | (simp; omega)) (by simp)).trans (show _ = some (.cells #[.bool nb, .slice ab db.length cb] 38 (0, 0)) by (repeat (first | rw [if_pos (by omega)] | rw [if_neg (by omega)] | rw [hp_drew] | rw [hp_drewN] | rw [hp_alloc_size] | rw [hp_setCell_size] | rw [hp_alloc] | rw [hp_setCell] | rw [Option.map_some] | rw [upd_cells] | rw [List.set_cons_zero] | rw [List.set_cons_succ] | rfl)))
    have z0 := heap_eq_cell hz_ 0
    have z1 := heap_eq_cell hz_ 1
    have zl := lt_of_block hz_
    have Hz := Lib.hid hz_
    clear hz_
    have H3 := Lib.hid h9
    clear h9 H2
    go_wp2_with fail
    refine (Set_q H3.out node (BigSrc.base (HIN.out.1.fr (by (repeat (first | exact Fr.refl _ _ | assumption | apply Fr.drewN | apply Fr.drew | apply Fr.alloc | refine Fr.setCell ?_ (Or.inr (by simp; try omega)) _))))) (BigSrc.base (HIN.out.2.1.fr (by (repeat (first | exact Fr.refl _ _ | assumption | apply Fr.drewN | apply Fr.drew | apply Fr.alloc | refine Fr.setCell ?_ (Or.inr (by simp; try omega)) _))))) st).mono ?_
    rw [HE3.out]
    rintro e w4 ⟨rfl, h9⟩
    (try clear x0 x1 x2 x3 x4 x5 x6 x7 xl Hx y0 y1 yl Hy z0 z1 zl Hz)
    have hx_ := (h9.fr.block (W.heap.size) (by first | (simp; done) | (simp; omega)) (by simp)).trans (show _ = some (.cells #[.int .i64 s, .slice a ns.length c, .int .i64 node, .bool nx, .slice ax dx.length cx, .bool ny, .slice ay dy.length cy, .int .i64 st] 58 (0, 0)) by (repeat (first | rw [if_pos (by omega)] | rw [if_neg (by omega)] | rw [hp_drew] | rw [hp_drewN] | rw [hp_alloc_size] | rw [hp_setCell_size] | rw [hp_alloc] | rw [hp_setCell] | rw [Option.map_some] | rw [upd_cells] | rw [List.set_cons_zero] | rw [List.set_cons_succ] | rfl)))
    have x0 := heap_eq_cell hx_ 0
    have x1 := heap_eq_cell hx_ 1
    have x2 := heap_eq_cell hx_ 2
    have x3 := heap_eq_cell hx_ 3
    have x4 := heap_eq_cell hx_ 4
    have x5 := heap_eq_cell hx_ 5
    have x6 := heap_eq_cell hx_ 6
    have x7 := heap_eq_cell hx_ 7
    have xl := lt_of_block hx_
    have Hx := Lib.hid hx_
    clear hx_
    have hy_ := (h9.fr.block (W.heap.size + 1) (by first | (simp; done) | (simp; omega)) (by simp)).trans (show _ = some (.cells #[.bool na, .slice aa da.length ca] 38 (0, 0)) by (repeat (first | rw [if_pos (by omega)] | rw [if_neg (by omega)] | rw [hp_drew] | rw [hp_drewN] | rw [hp_alloc_size] | rw [hp_setCell_size] | rw [hp_alloc] | rw [hp_setCell] | rw [Option.map_some] | rw [upd_cells] | rw [List.set_cons_zero] | rw [List.set_cons_succ] | rfl)))
    have y0 := heap_eq_cell hy_ 0
    have y1 := heap_eq_cell hy_ 1
    have yl := lt_of_block hy_
    have Hy := Lib.hid hy_
    clear hy_
    have hz_ := (h9.fr.block (W.heap.size + 2) (by first | (simp; done) | (simp; omega)) (by simp)).trans (show _ = some (.cells #[.bool nb, .slice ab db.length cb] 38 (0, 0)) by (repeat (first | rw [if_pos (by omega)] | rw [if_neg (by omega)] | rw [hp_drew] | rw [hp_drewN] | rw [hp_alloc_size] | rw [hp_setCell_size] | rw [hp_alloc] | rw [hp_setCell] | rw [Option.map_some] | rw [upd_cells] | rw [List.set_cons_zero] | rw [List.set_cons_succ] | rfl)))
    have z0 := heap_eq_cell hz_ 0
    have z1 := heap_eq_cell hz_ 1
    have zl := lt_of_block hz_
    have Hz := Lib.hid hz_
    clear hz_
    have H4 := Lib.hid h9
    clear h9 H3
    go_wp2_with fail
    refine (awake_q _).mono ?_
    rintro e w9 ⟨rfl, hf9⟩
    have Hf9 := Lib.hid (Fr.trans0 (by (repeat (first | exact Fr.refl _ _ | assumption | apply Fr.drewN | apply Fr.drew | apply Fr.alloc | refine Fr.setCell ?_ (Or.inr (by simp; try omega)) _)) : Fr [] W _) (H4.out.fr.trans0 (Fr.trans0 (by (repeat (first | exact Fr.refl _ _ | assumption | apply Fr.drewN | apply Fr.drew | apply Fr.alloc | refine Fr.setCell ?_ (Or.inr (by simp; try omega)) _))) hf9)))
    clear hf9
    go_wp2
    go_ret
    exact ⟨rfl, Hf9.out⟩
  obtain ⟨id, old, ms, m2, hC⟩ := cells_ok (na := na) (nb := nb) hg hlen dga dgb dgx dgy hp hst.1 hst.2
  have HE2 := Lib.hid hC.get
  have HE3 := Lib.hid hC.set
  have HE4 := Lib.hid hC.again
  have HE5 := Lib.hid hC.now
  by_cases hg2 : g2 = 0
  case neg =>
    have hq : (g2 != 0) = true := by simpa using hg2
    clear hE1 hp hst hlen hg hC hg2 dga dgb dgx dgy
    go_enter Try.func5, Try.ntmps5
    go_wp2_with fail
    refine (HLD.out _ (by (repeat (first | exact Fr.refl _ _ | assumption | apply Fr.drewN | apply Fr.drew | apply Fr.alloc | refine Fr.setCell ?_ (Or.inr (by simp; try omega)) _)))).mono ?_
    rintro e w1 ⟨h1, _⟩
    obtain ⟨b, r, rfl, h9⟩ := h1 Hok.out
    (try clear x0 x1 x2 x3 x4 x5 x6 x7 xl Hx y0 y1 yl Hy z0 z1 zl Hz)
    have hx_ := (h9.fr.block (W.heap.size) (by first | (simp; done) | (simp; omega)) (by simp)).trans (show _ = some (.cells #[.int .i64 s, .slice a ns.length c, .int .i64 node, .bool nx, .slice ax dx.length cx, .bool ny, .slice ay dy.length cy, .int .i64 st] 58 (0, 0)) by (repeat (first | rw [if_pos (by omega)] | rw [if_neg (by omega)] | rw [hp_drew] | rw [hp_drewN] | rw [hp_alloc_size] | rw [hp_setCell_size] | rw [hp_alloc] | rw [hp_setCell] | rw [Option.map_some] | rw [upd_cells] | rw [List.set_cons_zero] | rw [List.set_cons_succ] | rfl)))
    have x0 := heap_eq_cell hx_ 0
    have x1 := heap_eq_cell hx_ 1
    have x2 := heap_eq_cell hx_ 2
    have x3 := heap_eq_cell hx_ 3
    have x4 := heap_eq_cell hx_ 4
    have x5 := heap_eq_cell hx_ 5
    have x6 := heap_eq_cell hx_ 6
    have x7 := heap_eq_cell hx_ 7
    have xl := lt_of_block hx_
    have Hx := Lib.hid hx_
    clear hx_
    have hy_ := (h9.fr.block (W.heap.size + 1) (by first | (simp; done) | (simp; omega)) (by simp)).trans (show _ = some (.cells #[.bool na, .slice aa da.length ca] 38 (0, 0)) by (repeat (first | rw [if_pos (by omega)] | rw [if_neg (by omega)] | rw [hp_drew] | rw [hp_drewN] | rw [hp_alloc_size] | rw [hp_setCell_size] | rw [hp_alloc] | rw [hp_setCell] | rw [Option.map_some] | rw [upd_cells] | rw [List.set_cons_zero] | rw [List.set_cons_succ] | rfl)))
    have y0 := heap_eq_cell hy_ 0
    have y1 := heap_eq_cell hy_ 1
    have yl := lt_of_block hy_
    have Hy := Lib.hid hy_
    clear hy_
    have hz_ := (h9.fr.block (W.heap.size + 2) (by first | (simp; done) | (simp; omega)) (by simp)).trans (show _ = some (.cells #[.bool nb, .slice ab db.length cb] 38 (0, 0)) by (repeat (first | rw [if_pos (by omega)] | rw [if_neg (by omega)] | rw [hp_drew] | rw [hp_drewN] | rw [hp_alloc_size] | rw [hp_setCell_size] | rw [hp_alloc] | rw [hp_setCell] | rw [Option.map_some] | rw [upd_cells] | rw [List.set_cons_zero] | rw [List.set_cons_succ] | rfl)))
    have z0 := heap_eq_cell hz_ 0
    have z1 := heap_eq_cell hz_ 1
    have zl := lt_of_block hz_
    have Hz := Lib.hid hz_
    clear hz_
    have H1 := Lib.hid h9
    clear h1 h9
    go_wp2_with fail
    refine (Get_q H1.out node (HIN.out.2.2.1.fr (Fr.trans0 (by (repeat (first | exact Fr.refl _ _ | assumption | apply Fr.drewN | apply Fr.drew | apply Fr.alloc | refine Fr.setCell ?_ (Or.inr (by simp; try omega)) _))) H1.out.fr)) (HIN.out.2.2.2.fr (Fr.trans0 (by (repeat (first | exact Fr.refl _ _ | assumption | apply Fr.drewN | apply Fr.drew | apply Fr.alloc | refine Fr.setCell ?_ (Or.inr (by simp; try omega)) _))) H1.out.fr))).mono ?_
    rw [HE1.out]
    rintro e w2 ⟨rfl, h9, _⟩
    (try clear x0 x1 x2 x3 x4 x5 x6 x7 xl Hx y0 y1 yl Hy z0 z1 zl Hz)
    have hx_ := (h9.fr.block (W.heap.size) (by first | (simp; done) | (simp; omega)) (by simp)).trans (show _ = some (.cells #[.int .i64 s, .slice a ns.length c, .int .i64 node, .bool nx, .slice ax dx.length cx, .bool ny, .slice ay dy.length cy, .int .i64 st] 58 (0, 0)) by (repeat (first | rw [if_pos (by omega)] | rw [if_neg (by omega)] | rw [hp_drew] | rw [hp_drewN] | rw [hp_alloc_size] | rw [hp_setCell_size] | rw [hp_alloc] | rw [hp_setCell] | rw [Option.map_some] | rw [upd_cells] | rw [List.set_cons_zero] | rw [List.set_cons_succ] | rfl)))
    have x0 := heap_eq_cell hx_ 0
    have x1 := heap_eq_cell hx_ 1
    have x2 := heap_eq_cell hx_ 2
    have x3 := heap_eq_cell hx_ 3
    have x4 := heap_eq_cell hx_ 4
    have x5 := heap_eq_cell hx_ 5
    have x6 := heap_eq_cell hx_ 6
    have x7 := heap_eq_cell hx_ 7
    have xl := lt_of_block hx_
    have Hx := Lib.hid hx_
    clear hx_
    have hy_ := (h9.fr.block (W.heap.size + 1) (by first | (simp; done) | (simp; omega)) (by simp)).trans (show _ = some (.cells #[.bool na, .slice aa da.length ca] 38 (0, 0)) by (repeat (first | rw [if_pos (by omega)] | rw [if_neg (by omega)] | rw [hp_drew] | rw [hp_drewN] | rw [hp_alloc_size] | rw [hp_setCell_size] | rw [hp_alloc] | rw [hp_setCell] | rw [Option.map_some] | rw [upd_cells] | rw [List.set_cons_zero] | rw [List.set_cons_succ] | rfl)))
    have y0 := heap_eq_cell hy_ 0
    have y1 := heap_eq_cell hy_ 1
    have yl := lt_of_block hy_
    have Hy := Lib.hid hy_
    clear hy_
    have hz_ := (h9.fr.block (W.heap.size + 2) (by first | (simp; done) | (simp; omega)) (by simp)).trans (show _ = some (.cells #[.bool nb, .slice ab db.length cb] 38 (0, 0)) by (repeat (first | rw [if_pos (by omega)] | rw [if_neg (by omega)] | rw [hp_drew] | rw [hp_drewN] | rw [hp_alloc_size] | rw [hp_setCell_size] | rw [hp_alloc] | rw [hp_setCell] | rw [Option.map_some] | rw [upd_cells] | rw [List.set_cons_zero] | rw [List.set_cons_succ] | rfl)))
    have z0 := heap_eq_cell hz_ 0
    have z1 := heap_eq_cell hz_ 1
    have zl := lt_of_block hz_
    have Hz := Lib.hid hz_
    clear hz_
    have H2 := Lib.hid h9
    clear h9 H1
    go_wp2_with fail
    refine (Get_q H2.out node (HIN.out.1.fr (Fr.trans0 (by (repeat (first | exact Fr.refl _ _ | assumption | apply Fr.drewN | apply Fr.drew | apply Fr.alloc | refine Fr.setCell ?_ (Or.inr (by simp; try omega)) _))) H2.out.fr)) (HIN.out.2.1.fr (Fr.trans0 (by (repeat (first | exact Fr.refl _ _ | assumption | apply Fr.drewN | apply Fr.drew | apply Fr.alloc | refine Fr.setCell ?_ (Or.inr (by simp; try omega)) _))) H2.out.fr))).mono ?_
    rw [HE2.out]
    rintro e w3 ⟨rfl, h9, _⟩
    (try clear x0 x1 x2 x3 x4 x5 x6 x7 xl Hx y0 y1 yl Hy z0 z1 zl Hz)
    have hx_ := (h9.fr.block (W.heap.size) (by first | (simp; done) | (simp; omega)) (by simp)).trans (show _ = some (.cells #[.int .i64 s, .slice a ns.length c, .int .i64 node, .bool nx, .slice ax dx.length cx, .bool ny, .slice ay dy.length cy, .int .i64 st] 58 (0, 0)) by (repeat (first | rw [if_pos (by omega)] | rw [if_neg (by omega)] | rw [hp_drew] | rw [hp_drewN] | rw [hp_alloc_size] | rw [hp_setCell_size] | rw [hp_alloc] | rw [hp_setCell] | rw [Option.map_some] | rw [upd_cells] | rw [List.set_cons_zero] | rw [List.set_cons_succ] | rfl)))
    have x0 := heap_eq_cell hx_ 0
    have x1 := heap_eq_cell hx_ 1
    have x2 := heap_eq_cell hx_ 2
    have x3 := heap_eq_cell hx_ 3
    have x4 := heap_eq_cell hx_ 4
    have x5 := heap_eq_cell hx_ 5
    have x6 := heap_eq_cell hx_ 6
    have x7 := heap_eq_cell hx_ 7
    have xl := lt_of_block hx_
    have Hx := Lib.hid hx_
    clear hx_
    have hy_ := (h9.fr.block (W.heap.size + 1) (by first | (simp; done) | (simp; omega)) (by simp)).trans (show _ = some (.cells #[.bool na, .slice aa da.length ca] 38 (0, 0)) by (repeat (first | rw [if_pos (by omega)] | rw [if_neg (by omega)] | rw [hp_drew] | rw [hp_drewN] | rw [hp_alloc_size] | rw [hp_setCell_size] | rw [hp_alloc] | rw [hp_setCell] | rw [Option.map_some] | rw [upd_cells] | rw [List.set_cons_zero] | rw [List.set_cons_succ] | rfl)))
    have y0 := heap_eq_cell hy_ 0
    have y1 := heap_eq_cell hy_ 1
    have yl := lt_of_block hy_
    have Hy := Lib.hid hy_
    clear hy_
    have hz_ := (h9.fr.block (W.heap.size + 2) (by first | (simp; done) | (simp; omega)) (by simp)).trans (show _ = some (.cells #[.bool nb, .slice ab db.length cb] 38 (0, 0)) by (repeat (first | rw [if_pos (by omega)] | rw [if_neg (by omega)] | rw [hp_drew] | rw [hp_drewN] | rw [hp_alloc_size] | rw [hp_setCell_size] | rw [hp_alloc] | rw [hp_setCell] | rw [Option.map_some] | rw [upd_cells] | rw [List.set_cons_zero] | rw [List.set_cons_succ] | rfl)))
    have z0 := heap_eq_cell hz_ 0
    have z1 := heap_eq_cell hz_ 1
    have zl := lt_of_block hz_
    have Hz := Lib.hid hz_
    clear hz_
    have H3 := Lib.hid h9
    clear h9 H2
    go_wp2_with fail
    refine (Set_q H3.out node (BigSrc.base (HIN.out.1.fr (by (repeat (first | exact Fr.refl _ _ | assumption | apply Fr.drewN | apply Fr.drew | apply Fr.alloc | refine Fr.setCell ?_ (Or.inr (by simp; try omega)) _))))) (BigSrc.base (HIN.out.2.1.fr (by (repeat (first | exact Fr.refl _ _ | assumption | apply Fr.drewN | apply Fr.drew | apply Fr.alloc | refine Fr.setCell ?_ (Or.inr (by simp; try omega)) _))))) st).mono ?_
    rw [HE3.out]
    rintro e w4 ⟨rfl, h9⟩
    (try clear x0 x1 x2 x3 x4 x5 x6 x7 xl Hx y0 y1 yl Hy z0 z1 zl Hz)
    have hx_ := (h9.fr.block (W.heap.size) (by first | (simp; done) | (simp; omega)) (by simp)).trans (show _ = some (.cells #[.int .i64 s, .slice a ns.length c, .int .i64 node, .bool nx, .slice ax dx.length cx, .bool ny, .slice ay dy.length cy, .int .i64 st] 58 (0, 0)) by (repeat (first | rw [if_pos (by omega)] | rw [if_neg (by omega)] | rw [hp_drew] | rw [hp_drewN] | rw [hp_alloc_size] | rw [hp_setCell_size] | rw [hp_alloc] | rw [hp_setCell] | rw [Option.map_some] | rw [upd_cells] | rw [List.set_cons_zero] | rw [List.set_cons_succ] | rfl)))
    have x0 := heap_eq_cell hx_ 0
    have x1 := heap_eq_cell hx_ 1
    have x2 := heap_eq_cell hx_ 2
    have x3 := heap_eq_cell hx_ 3
    have x4 := heap_eq_cell hx_ 4
    have x5 := heap_eq_cell hx_ 5
    have x6 := heap_eq_cell hx_ 6
    have x7 := heap_eq_cell hx_ 7
    have xl := lt_of_block hx_
    have Hx := Lib.hid hx_
    clear hx_
    have hy_ := (h9.fr.block (W.heap.size + 1) (by first | (simp; done) | (simp; omega)) (by simp)).trans (show _ = some (.cells #[.bool na, .slice aa da.length ca] 38 (0, 0)) by (repeat (first | rw [if_pos (by omega)] | rw [if_neg (by omega)] | rw [hp_drew] | rw [hp_drewN] | rw [hp_alloc_size] | rw [hp_setCell_size] | rw [hp_alloc] | rw [hp_setCell] | rw [Option.map_some] | rw [upd_cells] | rw [List.set_cons_zero] | rw [List.set_cons_succ] | rfl)))
    have y0 := heap_eq_cell hy_ 0
    have y1 := heap_eq_cell hy_ 1
    have yl := lt_of_block hy_
    have Hy := Lib.hid hy_
    clear hy_
    have hz_ := (h9.fr.block (W.heap.size + 2) (by first | (simp; done) | (simp; omega)) (by simp)).trans (show _ = some (.cells #[.bool nb, .slice ab db.length cb] 38 (0, 0)) by (repeat (first | rw [if_pos (by omega)] | rw [if_neg (by omega)] | rw [hp_drew] | rw [hp_drewN] | rw [hp_alloc_size] | rw [hp_setCell_size] | rw [hp_alloc] | rw [hp_setCell] | rw [Option.map_some] | rw [upd_cells] | rw [List.set_cons_zero] | rw [List.set_cons_succ] | rfl)))
    have z0 := heap_eq_cell hz_ 0
    have z1 := heap_eq_cell hz_ 1
    have zl := lt_of_block hz_
    have Hz := Lib.hid hz_
    clear hz_
    have H4 := Lib.hid h9
    clear h9 H3
    go_wp2_with fail
    refine (Set_q H4.out node (BigSrc.base (HIN.out.1.fr (by (repeat (first | exact Fr.refl _ _ | assumption | apply Fr.drewN | apply Fr.drew | apply Fr.alloc | refine Fr.setCell ?_ (Or.inr (by simp; try omega)) _))))) (BigSrc.base (HIN.out.2.1.fr (by (repeat (first | exact Fr.refl _ _ | assumption | apply Fr.drewN | apply Fr.drew | apply Fr.alloc | refine Fr.setCell ?_ (Or.inr (by simp; try omega)) _))))) old).mono ?_
    rw [HE4.out]
    rintro e w5 ⟨rfl, h9⟩
    (try clear x0 x1 x2 x3 x4 x5 x6 x7 xl Hx y0 y1 yl Hy z0 z1 zl Hz)
    have hx_ := (h9.fr.block (W.heap.size) (by first | (simp; done) | (simp; omega)) (by simp)).trans (show _ = some (.cells #[.int .i64 s, .slice a ns.length c, .int .i64 node, .bool nx, .slice ax dx.length cx, .bool ny, .slice ay dy.length cy, .int .i64 st] 58 (0, 0)) by (repeat (first | rw [if_pos (by omega)] | rw [if_neg (by omega)] | rw [hp_drew] | rw [hp_drewN] | rw [hp_alloc_size] | rw [hp_setCell_size] | rw [hp_alloc] | rw [hp_setCell] | rw [Option.map_some] | rw [upd_cells] | rw [List.set_cons_zero] | rw [List.set_cons_succ] | rfl)))
    have x0 := heap_eq_cell hx_ 0
    have x1 := heap_eq_cell hx_ 1
    have x2 := heap_eq_cell hx_ 2
    have x3 := heap_eq_cell hx_ 3
    have x4 := heap_eq_cell hx_ 4
    have x5 := heap_eq_cell hx_ 5
    have x6 := heap_eq_cell hx_ 6
    have x7 := heap_eq_cell hx_ 7
    have xl := lt_of_block hx_
    have Hx := Lib.hid hx_
    clear hx_
    have hy_ := (h9.fr.block (W.heap.size + 1) (by first | (simp; done) | (simp; omega)) (by simp)).trans (show _ = some (.cells #[.bool na, .slice aa da.length ca] 38 (0, 0)) by (repeat (first | rw [if_pos (by omega)] | rw [if_neg (by omega)] | rw [hp_drew] | rw [hp_drewN] | rw [hp_alloc_size] | rw [hp_setCell_size] | rw [hp_alloc] | rw [hp_setCell] | rw [Option.map_some] | rw [upd_cells] | rw [List.set_cons_zero] | rw [List.set_cons_succ] | rfl)))
    have y0 := heap_eq_cell hy_ 0
    have y1 := heap_eq_cell hy_ 1
    have yl := lt_of_block hy_
    have Hy := Lib.hid hy_
    clear hy_
    have hz_ := (h9.fr.block (W.heap.size + 2) (by first | (simp; done) | (simp; omega)) (by simp)).trans (show _ = some (.cells #[.bool nb, .slice ab db.length cb] 38 (0, 0)) by (repeat (first | rw [if_pos (by omega)] | rw [if_neg (by omega)] | rw [hp_drew] | rw [hp_drewN] | rw [hp_alloc_size] | rw [hp_setCell_size] | rw [hp_alloc] | rw [hp_setCell] | rw [Option.map_some] | rw [upd_cells] | rw [List.set_cons_zero] | rw [List.set_cons_succ] | rfl)))
    have z0 := heap_eq_cell hz_ 0
    have z1 := heap_eq_cell hz_ 1
    have zl := lt_of_block hz_
    have Hz := Lib.hid hz_
    clear hz_
    have H5 := Lib.hid h9
    clear h9 H4
    go_wp2_with fail
    refine (Get_q H5.out id (HIN.out.1.fr (Fr.trans0 (by (repeat (first | exact Fr.refl _ _ | assumption | apply Fr.drewN | apply Fr.drew | apply Fr.alloc | refine Fr.setCell ?_ (Or.inr (by simp; try omega)) _))) H5.out.fr)) (HIN.out.2.1.fr (Fr.trans0 (by (repeat (first | exact Fr.refl _ _ | assumption | apply Fr.drewN | apply Fr.drew | apply Fr.alloc | refine Fr.setCell ?_ (Or.inr (by simp; try omega)) _))) H5.out.fr))).mono ?_
    rw [HE5.out]
    rintro e w6 ⟨rfl, h9, _⟩
    (try clear x0 x1 x2 x3 x4 x5 x6 x7 xl Hx y0 y1 yl Hy z0 z1 zl Hz)
    have hx_ := (h9.fr.block (W.heap.size) (by first | (simp; done) | (simp; omega)) (by simp)).trans (show _ = some (.cells #[.int .i64 s, .slice a ns.length c, .int .i64 node, .bool nx, .slice ax dx.length cx, .bool ny, .slice ay dy.length cy, .int .i64 st] 58 (0, 0)) by (repeat (first | rw [if_pos (by omega)] | rw [if_neg (by omega)] | rw [hp_drew] | rw [hp_drewN] | rw [hp_alloc_size] | rw [hp_setCell_size] | rw [hp_alloc] | rw [hp_setCell] | rw [Option.map_some] | rw [upd_cells] | rw [List.set_cons_zero] | rw [List.set_cons_succ] | rfl)))
    have x0 := heap_eq_cell hx_ 0
    have x1 := heap_eq_cell hx_ 1
    have x2 := heap_eq_cell hx_ 2
    have x3 := heap_eq_cell hx_ 3
    have x4 := heap_eq_cell hx_ 4
    have x5 := heap_eq_cell hx_ 5
    have x6 := heap_eq_cell hx_ 6
    have x7 := heap_eq_cell hx_ 7
    have xl := lt_of_block hx_
    have Hx := Lib.hid hx_
    clear hx_
    have hy_ := (h9.fr.block (W.heap.size + 1) (by first | (simp; done) | (simp; omega)) (by simp)).trans (show _ = some (.cells #[.bool na, .slice aa da.length ca] 38 (0, 0)) by (repeat (first | rw [if_pos (by omega)] | rw [if_neg (by omega)] | rw [hp_drew] | rw [hp_drewN] | rw [hp_alloc_size] | rw [hp_setCell_size] | rw [hp_alloc] | rw [hp_setCell] | rw [Option.map_some] | rw [upd_cells] | rw [List.set_cons_zero] | rw [List.set_cons_succ] | rfl)))
    have y0 := heap_eq_cell hy_ 0
    have y1 := heap_eq_cell hy_ 1
    have yl := lt_of_block hy_
    have Hy := Lib.hid hy_
    clear hy_
    have hz_ := (h9.fr.block (W.heap.size + 2) (by first | (simp; done) | (simp; omega)) (by simp)).trans (show _ = some (.cells #[.bool nb, .slice ab db.length cb] 38 (0, 0)) by (repeat (first | rw [if_pos (by omega)] | rw [if_neg (by omega)] | rw [hp_drew] | rw [hp_drewN] | rw [hp_alloc_size] | rw [hp_setCell_size] | rw [hp_alloc] | rw [hp_setCell] | rw [Option.map_some] | rw [upd_cells] | rw [List.set_cons_zero] | rw [List.set_cons_succ] | rfl)))
    have z0 := heap_eq_cell hz_ 0
    have z1 := heap_eq_cell hz_ 1
    have zl := lt_of_block hz_
    have Hz := Lib.hid hz_
    clear hz_
    have H6 := Lib.hid h9
    clear h9 H5
    go_wp2_with fail
    refine (awake_q _).mono ?_
    rintro e w9 ⟨rfl, hf9⟩
    have Hf9 := Lib.hid (Fr.trans0 (by (repeat (first | exact Fr.refl _ _ | assumption | apply Fr.drewN | apply Fr.drew | apply Fr.alloc | refine Fr.setCell ?_ (Or.inr (by simp; try omega)) _)) : Fr [] W _) (H6.out.fr.trans0 (Fr.trans0 (by (repeat (first | exact Fr.refl _ _ | assumption | apply Fr.drewN | apply Fr.drew | apply Fr.alloc | refine Fr.setCell ?_ (Or.inr (by simp; try omega)) _))) hf9)))
    clear hf9
    go_wp2
    go_ret
    exact ⟨rfl, Hf9.out⟩
  subst hg2
  obtain ⟨v, hE6, hv1, hv2⟩ := hC.other (by rw [hE1])
  rw [hE1] at hv2
  have HE6 := Lib.hid hE6
  by_cases hq1 : na = nx ∧ da = dx
  case neg =>
    have HQ1 := Lib.hid (show decide (na = nx ∧ da = dx) = false by simpa using hq1)
    obtain rfl : v = g1 := hv2 fun h => hq1 h.1
    clear hE1 hp hst hlen hg hC hE6 hv1 hv2 hq1 dga dgb dgx dgy
    go_enter Try.func5, Try.ntmps5
    go_wp2_with fail
    refine (HLD.out _ (by (repeat (first | exact Fr.refl _ _ | assumption | apply Fr.drewN | apply Fr.drew | apply Fr.alloc | refine Fr.setCell ?_ (Or.inr (by simp; try omega)) _)))).mono ?_
    rintro e w1 ⟨h1, _⟩
    obtain ⟨b, r, rfl, h9⟩ := h1 Hok.out
    (try clear x0 x1 x2 x3 x4 x5 x6 x7 xl Hx y0 y1 yl Hy z0 z1 zl Hz)
    have hx_ := (h9.fr.block (W.heap.size) (by first | (simp; done) | (simp; omega)) (by simp)).trans (show _ = some (.cells #[.int .i64 s, .slice a ns.length c, .int .i64 node, .bool nx, .slice ax dx.length cx, .bool ny, .slice ay dy.length cy, .int .i64 st] 58 (0, 0)) by (repeat (first | rw [if_pos (by omega)] | rw [if_neg (by omega)] | rw [hp_drew] | rw [hp_drewN] | rw [hp_alloc_size] | rw [hp_setCell_size] | rw [hp_alloc] | rw [hp_setCell] | rw [Option.map_some] | rw [upd_cells] | rw [List.set_cons_zero] | rw [List.set_cons_succ] | rfl)))
    have x0 := heap_eq_cell hx_ 0
    have x1 := heap_eq_cell hx_ 1
    have x2 := heap_eq_cell hx_ 2
    have x3 := heap_eq_cell hx_ 3
    have x4 := heap_eq_cell hx_ 4
    have x5 := heap_eq_cell hx_ 5
    have x6 := heap_eq_cell hx_ 6
    have x7 := heap_eq_cell hx_ 7
    have xl := lt_of_block hx_
    have Hx := Lib.hid hx_
    clear hx_
    have hy_ := (h9.fr.block (W.heap.size + 1) (by first | (simp; done) | (simp; omega)) (by simp)).trans (show _ = some (.cells #[.bool na, .slice aa da.length ca] 38 (0, 0)) by (repeat (first | rw [if_pos (by omega)] | rw [if_neg (by omega)] | rw [hp_drew] | rw [hp_drewN] | rw [hp_alloc_size] | rw [hp_setCell_size] | rw [hp_alloc] | rw [hp_setCell] | rw [Option.map_some] | rw [upd_cells] | rw [List.set_cons_zero] | rw [List.set_cons_succ] | rfl)))
    have y0 := heap_eq_cell hy_ 0
    have y1 := heap_eq_cell hy_ 1
    have yl := lt_of_block hy_
    have Hy := Lib.hid hy_
    clear hy_
    have hz_ := (h9.fr.block (W.heap.size + 2) (by first | (simp; done) | (simp; omega)) (by simp)).trans (show _ = some (.cells #[.bool nb, .slice ab db.length cb] 38 (0, 0)) by (repeat (first | rw [if_pos (by omega)] | rw [if_neg (by omega)] | rw [hp_drew] | rw [hp_drewN] | rw [hp_alloc_size] | rw [hp_setCell_size] | rw [hp_alloc] | rw [hp_setCell] | rw [Option.map_some] | rw [upd_cells] | rw [List.set_cons_zero] | rw [List.set_cons_succ] | rfl)))
    have z0 := heap_eq_cell hz_ 0
    have z1 := heap_eq_cell hz_ 1
    have zl := lt_of_block hz_
    have Hz := Lib.hid hz_
    clear hz_
    have H1 := Lib.hid h9
    clear h1 h9
    go_wp2_with fail
    refine (Get_q H1.out node (HIN.out.2.2.1.fr (Fr.trans0 (by (repeat (first | exact Fr.refl _ _ | assumption | apply Fr.drewN | apply Fr.drew | apply Fr.alloc | refine Fr.setCell ?_ (Or.inr (by simp; try omega)) _))) H1.out.fr)) (HIN.out.2.2.2.fr (Fr.trans0 (by (repeat (first | exact Fr.refl _ _ | assumption | apply Fr.drewN | apply Fr.drew | apply Fr.alloc | refine Fr.setCell ?_ (Or.inr (by simp; try omega)) _))) H1.out.fr))).mono ?_
    rw [HE1.out]
    rintro e w2 ⟨rfl, h9, _⟩
    (try clear x0 x1 x2 x3 x4 x5 x6 x7 xl Hx y0 y1 yl Hy z0 z1 zl Hz)
    have hx_ := (h9.fr.block (W.heap.size) (by first | (simp; done) | (simp; omega)) (by simp)).trans (show _ = some (.cells #[.int .i64 s, .slice a ns.length c, .int .i64 node, .bool nx, .slice ax dx.length cx, .bool ny, .slice ay dy.length cy, .int .i64 st] 58 (0, 0)) by (repeat (first | rw [if_pos (by omega)] | rw [if_neg (by omega)] | rw [hp_drew] | rw [hp_drewN] | rw [hp_alloc_size] | rw [hp_setCell_size] | rw [hp_alloc] | rw [hp_setCell] | rw [Option.map_some] | rw [upd_cells] | rw [List.set_cons_zero] | rw [List.set_cons_succ] | rfl)))
    have x0 := heap_eq_cell hx_ 0
    have x1 := heap_eq_cell hx_ 1
    have x2 := heap_eq_cell hx_ 2
    have x3 := heap_eq_cell hx_ 3
    have x4 := heap_eq_cell hx_ 4
    have x5 := heap_eq_cell hx_ 5
    have x6 := heap_eq_cell hx_ 6
    have x7 := heap_eq_cell hx_ 7
    have xl := lt_of_block hx_
    have Hx := Lib.hid hx_
    clear hx_
    have hy_ := (h9.fr.block (W.heap.size + 1) (by first | (simp; done) | (simp; omega)) (by simp)).trans (show _ = some (.cells #[.bool na, .slice aa da.length ca] 38 (0, 0)) by (repeat (first | rw [if_pos (by omega)] | rw [if_neg (by omega)] | rw [hp_drew] | rw [hp_drewN] | rw [hp_alloc_size] | rw [hp_setCell_size] | rw [hp_alloc] | rw [hp_setCell] | rw [Option.map_some] | rw [upd_cells] | rw [List.set_cons_zero] | rw [List.set_cons_succ] | rfl)))
    have y0 := heap_eq_cell hy_ 0
    have y1 := heap_eq_cell hy_ 1
    have yl := lt_of_block hy_
    have Hy := Lib.hid hy_
    clear hy_
    have hz_ := (h9.fr.block (W.heap.size + 2) (by first | (simp; done) | (simp; omega)) (by simp)).trans (show _ = some (.cells #[.bool nb, .slice ab db.length cb] 38 (0, 0)) by (repeat (first | rw [if_pos (by omega)] | rw [if_neg (by omega)] | rw [hp_drew] | rw [hp_drewN] | rw [hp_alloc_size] | rw [hp_setCell_size] | rw [hp_alloc] | rw [hp_setCell] | rw [Option.map_some] | rw [upd_cells] | rw [List.set_cons_zero] | rw [List.set_cons_succ] | rfl)))
    have z0 := heap_eq_cell hz_ 0
    have z1 := heap_eq_cell hz_ 1
    have zl := lt_of_block hz_
    have Hz := Lib.hid hz_
    clear hz_
    have H2 := Lib.hid h9
    clear h9 H1
    go_wp2_with fail
    refine (Get_q H2.out node (HIN.out.1.fr (Fr.trans0 (by (repeat (first | exact Fr.refl _ _ | assumption | apply Fr.drewN | apply Fr.drew | apply Fr.alloc | refine Fr.setCell ?_ (Or.inr (by simp; try omega)) _))) H2.out.fr)) (HIN.out.2.1.fr (Fr.trans0 (by (repeat (first | exact Fr.refl _ _ | assumption | apply Fr.drewN | apply Fr.drew | apply Fr.alloc | refine Fr.setCell ?_ (Or.inr (by simp; try omega)) _))) H2.out.fr))).mono ?_
    rw [HE2.out]
    rintro e w3 ⟨rfl, h9, _⟩
    (try clear x0 x1 x2 x3 x4 x5 x6 x7 xl Hx y0 y1 yl Hy z0 z1 zl Hz)
    have hx_ := (h9.fr.block (W.heap.size) (by first | (simp; done) | (simp; omega)) (by simp)).trans (show _ = some (.cells #[.int .i64 s, .slice a ns.length c, .int .i64 node, .bool nx, .slice ax dx.length cx, .bool ny, .slice ay dy.length cy, .int .i64 st] 58 (0, 0)) by (repeat (first | rw [if_pos (by omega)] | rw [if_neg (by omega)] | rw [hp_drew] | rw [hp_drewN] | rw [hp_alloc_size] | rw [hp_setCell_size] | rw [hp_alloc] | rw [hp_setCell] | rw [Option.map_some] | rw [upd_cells] | rw [List.set_cons_zero] | rw [List.set_cons_succ] | rfl)))
    have x0 := heap_eq_cell hx_ 0
    have x1 := heap_eq_cell hx_ 1
    have x2 := heap_eq_cell hx_ 2
    have x3 := heap_eq_cell hx_ 3
    have x4 := heap_eq_cell hx_ 4
    have x5 := heap_eq_cell hx_ 5
    have x6 := heap_eq_cell hx_ 6
    have x7 := heap_eq_cell hx_ 7
    have xl := lt_of_block hx_
    have Hx := Lib.hid hx_
    clear hx_
    have hy_ := (h9.fr.block (W.heap.size + 1) (by first | (simp; done) | (simp; omega)) (by simp)).trans (show _ = some (.cells #[.bool na, .slice aa da.length ca] 38 (0, 0)) by (repeat (first | rw [if_pos (by omega)] | rw [if_neg (by omega)] | rw [hp_drew] | rw [hp_drewN] | rw [hp_alloc_size] | rw [hp_setCell_size] | rw [hp_alloc] | rw [hp_setCell] | rw [Option.map_some] | rw [upd_cells] | rw [List.set_cons_zero] | rw [List.set_cons_succ] | rfl)))
    have y0 := heap_eq_cell hy_ 0
    have y1 := heap_eq_cell hy_ 1
    have yl := lt_of_block hy_
    have Hy := Lib.hid hy_
    clear hy_
    have hz_ := (h9.fr.block (W.heap.size + 2) (by first | (simp; done) | (simp; omega)) (by simp)).trans (show _ = some (.cells #[.bool nb, .slice ab db.length cb] 38 (0, 0)) by (repeat (first | rw [if_pos (by omega)] | rw [if_neg (by omega)] | rw [hp_drew] | rw [hp_drewN] | rw [hp_alloc_size] | rw [hp_setCell_size] | rw [hp_alloc] | rw [hp_setCell] | rw [Option.map_some] | rw [upd_cells] | rw [List.set_cons_zero] | rw [List.set_cons_succ] | rfl)))
    have z0 := heap_eq_cell hz_ 0
    have z1 := heap_eq_cell hz_ 1
    have zl := lt_of_block hz_
    have Hz := Lib.hid hz_
    clear hz_
    have H3 := Lib.hid h9
    clear h9 H2
    go_wp2_with fail
    refine (Set_q H3.out node (BigSrc.base (HIN.out.1.fr (by (repeat (first | exact Fr.refl _ _ | assumption | apply Fr.drewN | apply Fr.drew | apply Fr.alloc | refine Fr.setCell ?_ (Or.inr (by simp; try omega)) _))))) (BigSrc.base (HIN.out.2.1.fr (by (repeat (first | exact Fr.refl _ _ | assumption | apply Fr.drewN | apply Fr.drew | apply Fr.alloc | refine Fr.setCell ?_ (Or.inr (by simp; try omega)) _))))) st).mono ?_
    rw [HE3.out]
    rintro e w4 ⟨rfl, h9⟩
    (try clear x0 x1 x2 x3 x4 x5 x6 x7 xl Hx y0 y1 yl Hy z0 z1 zl Hz)
    have hx_ := (h9.fr.block (W.heap.size) (by first | (simp; done) | (simp; omega)) (by simp)).trans (show _ = some (.cells #[.int .i64 s, .slice a ns.length c, .int .i64 node, .bool nx, .slice ax dx.length cx, .bool ny, .slice ay dy.length cy, .int .i64 st] 58 (0, 0)) by (repeat (first | rw [if_pos (by omega)] | rw [if_neg (by omega)] | rw [hp_drew] | rw [hp_drewN] | rw [hp_alloc_size] | rw [hp_setCell_size] | rw [hp_alloc] | rw [hp_setCell] | rw [Option.map_some] | rw [upd_cells] | rw [List.set_cons_zero] | rw [List.set_cons_succ] | rfl)))
    have x0 := heap_eq_cell hx_ 0
    have x1 := heap_eq_cell hx_ 1
    have x2 := heap_eq_cell hx_ 2
    have x3 := heap_eq_cell hx_ 3
    have x4 := heap_eq_cell hx_ 4
    have x5 := heap_eq_cell hx_ 5
    have x6 := heap_eq_cell hx_ 6
    have x7 := heap_eq_cell hx_ 7
    have xl := lt_of_block hx_
    have Hx := Lib.hid hx_
    clear hx_
    have hy_ := (h9.fr.block (W.heap.size + 1) (by first | (simp; done) | (simp; omega)) (by simp)).trans (show _ = some (.cells #[.bool na, .slice aa da.length ca] 38 (0, 0)) by (repeat (first | rw [if_pos (by omega)] | rw [if_neg (by omega)] | rw [hp_drew] | rw [hp_drewN] | rw [hp_alloc_size] | rw [hp_setCell_size] | rw [hp_alloc] | rw [hp_setCell] | rw [Option.map_some] | rw [upd_cells] | rw [List.set_cons_zero] | rw [List.set_cons_succ] | rfl)))
    have y0 := heap_eq_cell hy_ 0
    have y1 := heap_eq_cell hy_ 1
    have yl := lt_of_block hy_
    have Hy := Lib.hid hy_
    clear hy_
    have hz_ := (h9.fr.block (W.heap.size + 2) (by first | (simp; done) | (simp; omega)) (by simp)).trans (show _ = some (.cells #[.bool nb, .slice ab db.length cb] 38 (0, 0)) by (repeat (first | rw [if_pos (by omega)] | rw [if_neg (by omega)] | rw [hp_drew] | rw [hp_drewN] | rw [hp_alloc_size] | rw [hp_setCell_size] | rw [hp_alloc] | rw [hp_setCell] | rw [Option.map_some] | rw [upd_cells] | rw [List.set_cons_zero] | rw [List.set_cons_succ] | rfl)))
    have z0 := heap_eq_cell hz_ 0
    have z1 := heap_eq_cell hz_ 1
    have zl := lt_of_block hz_
    have Hz := Lib.hid hz_
    clear hz_
    have H4 := Lib.hid h9
    clear h9 H3
    go_wp2_with fail
    refine (Set_q H4.out node (BigSrc.base (HIN.out.1.fr (by (repeat (first | exact Fr.refl _ _ | assumption | apply Fr.drewN | apply Fr.drew | apply Fr.alloc | refine Fr.setCell ?_ (Or.inr (by simp; try omega)) _))))) (BigSrc.base (HIN.out.2.1.fr (by (repeat (first | exact Fr.refl _ _ | assumption | apply Fr.drewN | apply Fr.drew | apply Fr.alloc | refine Fr.setCell ?_ (Or.inr (by simp; try omega)) _))))) old).mono ?_
    rw [HE4.out]
    rintro e w5 ⟨rfl, h9⟩
    (try clear x0 x1 x2 x3 x4 x5 x6 x7 xl Hx y0 y1 yl Hy z0 z1 zl Hz)
    have hx_ := (h9.fr.block (W.heap.size) (by first | (simp; done) | (simp; omega)) (by simp)).trans (show _ = some (.cells #[.int .i64 s, .slice a ns.length c, .int .i64 node, .bool nx, .slice ax dx.length cx, .bool ny, .slice ay dy.length cy, .int .i64 st] 58 (0, 0)) by (repeat (first | rw [if_pos (by omega)] | rw [if_neg (by omega)] | rw [hp_drew] | rw [hp_drewN] | rw [hp_alloc_size] | rw [hp_setCell_size] | rw [hp_alloc] | rw [hp_setCell] | rw [Option.map_some] | rw [upd_cells] | rw [List.set_cons_zero] | rw [List.set_cons_succ] | rfl)))
    have x0 := heap_eq_cell hx_ 0
    have x1 := heap_eq_cell hx_ 1
    have x2 := heap_eq_cell hx_ 2
    have x3 := heap_eq_cell hx_ 3
    have x4 := heap_eq_cell hx_ 4
    have x5 := heap_eq_cell hx_ 5
    have x6 := heap_eq_cell hx_ 6
    have x7 := heap_eq_cell hx_ 7
    have xl := lt_of_block hx_
    have Hx := Lib.hid hx_
    clear hx_
    have hy_ := (h9.fr.block (W.heap.size + 1) (by first | (simp; done) | (simp; omega)) (by simp)).trans (show _ = some (.cells #[.bool na, .slice aa da.length ca] 38 (0, 0)) by (repeat (first | rw [if_pos (by omega)] | rw [if_neg (by omega)] | rw [hp_drew] | rw [hp_drewN] | rw [hp_alloc_size] | rw [hp_setCell_size] | rw [hp_alloc] | rw [hp_setCell] | rw [Option.map_some] | rw [upd_cells] | rw [List.set_cons_zero] | rw [List.set_cons_succ] | rfl)))
    have y0 := heap_eq_cell hy_ 0
    have y1 := heap_eq_cell hy_ 1
    have yl := lt_of_block hy_
    have Hy := Lib.hid hy_
    clear hy_
    have hz_ := (h9.fr.block (W.heap.size + 2) (by first | (simp; done) | (simp; omega)) (by simp)).trans (show _ = some (.cells #[.bool nb, .slice ab db.length cb] 38 (0, 0)) by (repeat (first | rw [if_pos (by omega)] | rw [if_neg (by omega)] | rw [hp_drew] | rw [hp_drewN] | rw [hp_alloc_size] | rw [hp_setCell_size] | rw [hp_alloc] | rw [hp_setCell] | rw [Option.map_some] | rw [upd_cells] | rw [List.set_cons_zero] | rw [List.set_cons_succ] | rfl)))
    have z0 := heap_eq_cell hz_ 0
    have z1 := heap_eq_cell hz_ 1
    have zl := lt_of_block hz_
    have Hz := Lib.hid hz_
    clear hz_
    have H5 := Lib.hid h9
    clear h9 H4
    go_wp2_with fail
    refine (Get_q H5.out id (HIN.out.1.fr (Fr.trans0 (by (repeat (first | exact Fr.refl _ _ | assumption | apply Fr.drewN | apply Fr.drew | apply Fr.alloc | refine Fr.setCell ?_ (Or.inr (by simp; try omega)) _))) H5.out.fr)) (HIN.out.2.1.fr (Fr.trans0 (by (repeat (first | exact Fr.refl _ _ | assumption | apply Fr.drewN | apply Fr.drew | apply Fr.alloc | refine Fr.setCell ?_ (Or.inr (by simp; try omega)) _))) H5.out.fr))).mono ?_
    rw [HE5.out]
    rintro e w6 ⟨rfl, h9, _⟩
    (try clear x0 x1 x2 x3 x4 x5 x6 x7 xl Hx y0 y1 yl Hy z0 z1 zl Hz)
    have hx_ := (h9.fr.block (W.heap.size) (by first | (simp; done) | (simp; omega)) (by simp)).trans (show _ = some (.cells #[.int .i64 s, .slice a ns.length c, .int .i64 node, .bool nx, .slice ax dx.length cx, .bool ny, .slice ay dy.length cy, .int .i64 st] 58 (0, 0)) by (repeat (first | rw [if_pos (by omega)] | rw [if_neg (by omega)] | rw [hp_drew] | rw [hp_drewN] | rw [hp_alloc_size] | rw [hp_setCell_size] | rw [hp_alloc] | rw [hp_setCell] | rw [Option.map_some] | rw [upd_cells] | rw [List.set_cons_zero] | rw [List.set_cons_succ] | rfl)))
    have x0 := heap_eq_cell hx_ 0
    have x1 := heap_eq_cell hx_ 1
    have x2 := heap_eq_cell hx_ 2
    have x3 := heap_eq_cell hx_ 3
    have x4 := heap_eq_cell hx_ 4
    have x5 := heap_eq_cell hx_ 5
    have x6 := heap_eq_cell hx_ 6
    have x7 := heap_eq_cell hx_ 7
    have xl := lt_of_block hx_
    have Hx := Lib.hid hx_
    clear hx_
    have hy_ := (h9.fr.block (W.heap.size + 1) (by first | (simp; done) | (simp; omega)) (by simp)).trans (show _ = some (.cells #[.bool na, .slice aa da.length ca] 38 (0, 0)) by (repeat (first | rw [if_pos (by omega)] | rw [if_neg (by omega)] | rw [hp_drew] | rw [hp_drewN] | rw [hp_alloc_size] | rw [hp_setCell_size] | rw [hp_alloc] | rw [hp_setCell] | rw [Option.map_some] | rw [upd_cells] | rw [List.set_cons_zero] | rw [List.set_cons_succ] | rfl)))
    have y0 := heap_eq_cell hy_ 0
    have y1 := heap_eq_cell hy_ 1
    have yl := lt_of_block hy_
    have Hy := Lib.hid hy_
    clear hy_
    have hz_ := (h9.fr.block (W.heap.size + 2) (by first | (simp; done) | (simp; omega)) (by simp)).trans (show _ = some (.cells #[.bool nb, .slice ab db.length cb] 38 (0, 0)) by (repeat (first | rw [if_pos (by omega)] | rw [if_neg (by omega)] | rw [hp_drew] | rw [hp_drewN] | rw [hp_alloc_size] | rw [hp_setCell_size] | rw [hp_alloc] | rw [hp_setCell] | rw [Option.map_some] | rw [upd_cells] | rw [List.set_cons_zero] | rw [List.set_cons_succ] | rfl)))
    have z0 := heap_eq_cell hz_ 0
    have z1 := heap_eq_cell hz_ 1
    have zl := lt_of_block hz_
    have Hz := Lib.hid hz_
    clear hz_
    have H6 := Lib.hid h9
    clear h9 H5
    go_wp2_with fail
    refine (Get_q H6.out id (HIN.out.2.2.1.fr (Fr.trans0 (by (repeat (first | exact Fr.refl _ _ | assumption | apply Fr.drewN | apply Fr.drew | apply Fr.alloc | refine Fr.setCell ?_ (Or.inr (by simp; try omega)) _))) H6.out.fr)) (HIN.out.2.2.2.fr (Fr.trans0 (by (repeat (first | exact Fr.refl _ _ | assumption | apply Fr.drewN | apply Fr.drew | apply Fr.alloc | refine Fr.setCell ?_ (Or.inr (by simp; try omega)) _))) H6.out.fr))).mono ?_
    rw [HE6.out]
    rintro e w7 ⟨rfl, h9, _⟩
    (try clear x0 x1 x2 x3 x4 x5 x6 x7 xl Hx y0 y1 yl Hy z0 z1 zl Hz)
    have hx_ := (h9.fr.block (W.heap.size) (by first | (simp; done) | (simp; omega)) (by simp)).trans (show _ = some (.cells #[.int .i64 s, .slice a ns.length c, .int .i64 node, .bool nx, .slice ax dx.length cx, .bool ny, .slice ay dy.length cy, .int .i64 st] 58 (0, 0)) by (repeat (first | rw [if_pos (by omega)] | rw [if_neg (by omega)] | rw [hp_drew] | rw [hp_drewN] | rw [hp_alloc_size] | rw [hp_setCell_size] | rw [hp_alloc] | rw [hp_setCell] | rw [Option.map_some] | rw [upd_cells] | rw [List.set_cons_zero] | rw [List.set_cons_succ] | rfl)))
    have x0 := heap_eq_cell hx_ 0
    have x1 := heap_eq_cell hx_ 1
    have x2 := heap_eq_cell hx_ 2
    have x3 := heap_eq_cell hx_ 3
    have x4 := heap_eq_cell hx_ 4
    have x5 := heap_eq_cell hx_ 5
    have x6 := heap_eq_cell hx_ 6
    have x7 := heap_eq_cell hx_ 7
    have xl := lt_of_block hx_
    have Hx := Lib.hid hx_
    clear hx_
    have hy_ := (h9.fr.block (W.heap.size + 1) (by first | (simp; done) | (simp; omega)) (by simp)).trans (show _ = some (.cells #[.bool na, .slice aa da.length ca] 38 (0, 0)) by (repeat (first | rw [if_pos (by omega)] | rw [if_neg (by omega)] | rw [hp_drew] | rw [hp_drewN] | rw [hp_alloc_size] | rw [hp_setCell_size] | rw [hp_alloc] | rw [hp_setCell] | rw [Option.map_some] | rw [upd_cells] | rw [List.set_cons_zero] | rw [List.set_cons_succ] | rfl)))
    have y0 := heap_eq_cell hy_ 0
    have y1 := heap_eq_cell hy_ 1
    have yl := lt_of_block hy_
    have Hy := Lib.hid hy_
    clear hy_
    have hz_ := (h9.fr.block (W.heap.size + 2) (by first | (simp; done) | (simp; omega)) (by simp)).trans (show _ = some (.cells #[.bool nb, .slice ab db.length cb] 38 (0, 0)) by (repeat (first | rw [if_pos (by omega)] | rw [if_neg (by omega)] | rw [hp_drew] | rw [hp_drewN] | rw [hp_alloc_size] | rw [hp_setCell_size] | rw [hp_alloc] | rw [hp_setCell] | rw [Option.map_some] | rw [upd_cells] | rw [List.set_cons_zero] | rw [List.set_cons_succ] | rfl)))
    have z0 := heap_eq_cell hz_ 0
    have z1 := heap_eq_cell hz_ 1
    have zl := lt_of_block hz_
    have Hz := Lib.hid hz_
    clear hz_
    have H7 := Lib.hid h9
    clear h9 H6
    go_wp2_with fail
    refine (equal_q (HIN.out.2.2.1.fr (Fr.trans0 (by (repeat (first | exact Fr.refl _ _ | assumption | apply Fr.drewN | apply Fr.drew | apply Fr.alloc | refine Fr.setCell ?_ (Or.inr (by simp; try omega)) _))) H7.out.fr)) (HIN.out.1.fr (Fr.trans0 (by (repeat (first | exact Fr.refl _ _ | assumption | apply Fr.drewN | apply Fr.drew | apply Fr.alloc | refine Fr.setCell ?_ (Or.inr (by simp; try omega)) _))) H7.out.fr)) HSZ.out.1).mono ?_
    rw [HQ1.out]
    rintro e w8 ⟨rfl, hf⟩
    have h9 := H7.out.step hf
    (try clear x0 x1 x2 x3 x4 x5 x6 x7 xl Hx y0 y1 yl Hy z0 z1 zl Hz)
    have hx_ := (h9.fr.block (W.heap.size) (by first | (simp; done) | (simp; omega)) (by simp)).trans (show _ = some (.cells #[.int .i64 s, .slice a ns.length c, .int .i64 node, .bool nx, .slice ax dx.length cx, .bool ny, .slice ay dy.length cy, .int .i64 st] 58 (0, 0)) by (repeat (first | rw [if_pos (by omega)] | rw [if_neg (by omega)] | rw [hp_drew] | rw [hp_drewN] | rw [hp_alloc_size] | rw [hp_setCell_size] | rw [hp_alloc] | rw [hp_setCell] | rw [Option.map_some] | rw [upd_cells] | rw [List.set_cons_zero] | rw [List.set_cons_succ] | rfl)))
    have x0 := heap_eq_cell hx_ 0
    have x1 := heap_eq_cell hx_ 1
    have x2 := heap_eq_cell hx_ 2
    have x3 := heap_eq_cell hx_ 3
    have x4 := heap_eq_cell hx_ 4
    have x5 := heap_eq_cell hx_ 5
    have x6 := heap_eq_cell hx_ 6
    have x7 := heap_eq_cell hx_ 7
    have xl := lt_of_block hx_
    have Hx := Lib.hid hx_
    clear hx_
    have hy_ := (h9.fr.block (W.heap.size + 1) (by first | (simp; done) | (simp; omega)) (by simp)).trans (show _ = some (.cells #[.bool na, .slice aa da.length ca] 38 (0, 0)) by (repeat (first | rw [if_pos (by omega)] | rw [if_neg (by omega)] | rw [hp_drew] | rw [hp_drewN] | rw [hp_alloc_size] | rw [hp_setCell_size] | rw [hp_alloc] | rw [hp_setCell] | rw [Option.map_some] | rw [upd_cells] | rw [List.set_cons_zero] | rw [List.set_cons_succ] | rfl)))
    have y0 := heap_eq_cell hy_ 0
    have y1 := heap_eq_cell hy_ 1
    have yl := lt_of_block hy_
    have Hy := Lib.hid hy_
    clear hy_
    have hz_ := (h9.fr.block (W.heap.size + 2) (by first | (simp; done) | (simp; omega)) (by simp)).trans (show _ = some (.cells #[.bool nb, .slice ab db.length cb] 38 (0, 0)) by (repeat (first | rw [if_pos (by omega)] | rw [if_neg (by omega)] | rw [hp_drew] | rw [hp_drewN] | rw [hp_alloc_size] | rw [hp_setCell_size] | rw [hp_alloc] | rw [hp_setCell] | rw [Option.map_some] | rw [upd_cells] | rw [List.set_cons_zero] | rw [List.set_cons_succ] | rfl)))
    have z0 := heap_eq_cell hz_ 0
    have z1 := heap_eq_cell hz_ 1
    have zl := lt_of_block hz_
    have Hz := Lib.hid hz_
    clear hz_
    have H8 := Lib.hid h9
    clear h9 H7 hf
    go_wp2_with fail
    refine (awake_q _).mono ?_
    rintro e w9 ⟨rfl, hf9⟩
    have Hf9 := Lib.hid (Fr.trans0 (by (repeat (first | exact Fr.refl _ _ | assumption | apply Fr.drewN | apply Fr.drew | apply Fr.alloc | refine Fr.setCell ?_ (Or.inr (by simp; try omega)) _)) : Fr [] W _) (H8.out.fr.trans0 (Fr.trans0 (by (repeat (first | exact Fr.refl _ _ | assumption | apply Fr.drewN | apply Fr.drew | apply Fr.alloc | refine Fr.setCell ?_ (Or.inr (by simp; try omega)) _))) hf9)))
    clear hf9
    go_wp2
    go_ret
    exact ⟨rfl, Hf9.out⟩
  have HQ1 := Lib.hid (show decide (na = nx ∧ da = dx) = true by simpa using hq1)
  by_cases hq2 : nb = ny ∧ db = dy
  case neg =>
    have HQ2 := Lib.hid (show decide (nb = ny ∧ db = dy) = false by simpa using hq2)
    obtain rfl : v = g1 := hv2 fun h => hq2 h.2
    clear hE1 hp hst hlen hg hC hE6 hv1 hv2 hq1 hq2 dga dgb dgx dgy
    go_enter Try.func5, Try.ntmps5
    go_wp2_with fail
    refine (HLD.out _ (by (repeat (first | exact Fr.refl _ _ | assumption | apply Fr.drewN | apply Fr.drew | apply Fr.alloc | refine Fr.setCell ?_ (Or.inr (by simp; try omega)) _)))).mono ?_
    rintro e w1 ⟨h1, _⟩
    obtain ⟨b, r, rfl, h9⟩ := h1 Hok.out
    (try clear x0 x1 x2 x3 x4 x5 x6 x7 xl Hx y0 y1 yl Hy z0 z1 zl Hz)
    have hx_ := (h9.fr.block (W.heap.size) (by first | (simp; done) | (simp; omega)) (by simp)).trans (show _ = some (.cells #[.int .i64 s, .slice a ns.length c, .int .i64 node, .bool nx, .slice ax dx.length cx, .bool ny, .slice ay dy.length cy, .int .i64 st] 58 (0, 0)) by (repeat (first | rw [if_pos (by omega)] | rw [if_neg (by omega)] | rw [hp_drew] | rw [hp_drewN] | rw [hp_alloc_size] | rw [hp_setCell_size] | rw [hp_alloc] | rw [hp_setCell] | rw [Option.map_some] | rw [upd_cells] | rw [List.set_cons_zero] | rw [List.set_cons_succ] | rfl)))
    have x0 := heap_eq_cell hx_ 0
    have x1 := heap_eq_cell hx_ 1
    have x2 := heap_eq_cell hx_ 2
    have x3 := heap_eq_cell hx_ 3
    have x4 := heap_eq_cell hx_ 4
    have x5 := heap_eq_cell hx_ 5
    have x6 := heap_eq_cell hx_ 6
    have x7 := heap_eq_cell hx_ 7
    have xl := lt_of_block hx_
    have Hx := Lib.hid hx_
    clear hx_
    have hy_ := (h9.fr.block (W.heap.size + 1) (by first | (simp; done) | (simp; omega)) (by simp)).trans (show _ = some (.cells #[.bool na, .slice aa da.length ca] 38 (0, 0)) by (repeat (first | rw [if_pos (by omega)] | rw [if_neg (by omega)] | rw [hp_drew] | rw [hp_drewN] | rw [hp_alloc_size] | rw [hp_setCell_size] | rw [hp_alloc] | rw [hp_setCell] | rw [Option.map_some] | rw [upd_cells] | rw [List.set_cons_zero] | rw [List.set_cons_succ] | rfl)))
    have y0 := heap_eq_cell hy_ 0
    have y1 := heap_eq_cell hy_ 1
    have yl := lt_of_block hy_
    have Hy := Lib.hid hy_
    clear hy_
    have hz_ := (h9.fr.block (W.heap.size + 2) (by first | (simp; done) | (simp; omega)) (by simp)).trans (show _ = some (.cells #[.bool nb, .slice ab db.length cb] 38 (0, 0)) by (repeat (first | rw [if_pos (by omega)] | rw [if_neg (by omega)] | rw [hp_drew] | rw [hp_drewN] | rw [hp_alloc_size] | rw [hp_setCell_size] | rw [hp_alloc] | rw [hp_setCell] | rw [Option.map_some] | rw [upd_cells] | rw [List.set_cons_zero] | rw [List.set_cons_succ] | rfl)))
    have z0 := heap_eq_cell hz_ 0
    have z1 := heap_eq_cell hz_ 1
    have zl := lt_of_block hz_
    have Hz := Lib.hid hz_
    clear hz_
    have H1 := Lib.hid h9
    clear h1 h9
    go_wp2_with fail
    refine (Get_q H1.out node (HIN.out.2.2.1.fr (Fr.trans0 (by (repeat (first | exact Fr.refl _ _ | assumption | apply Fr.drewN | apply Fr.drew | apply Fr.alloc | refine Fr.setCell ?_ (Or.inr (by simp; try omega)) _))) H1.out.fr)) (HIN.out.2.2.2.fr (Fr.trans0 (by (repeat (first | exact Fr.refl _ _ | assumption | apply Fr.drewN | apply Fr.drew | apply Fr.alloc | refine Fr.setCell ?_ (Or.inr (by simp; try omega)) _))) H1.out.fr))).mono ?_
    rw [HE1.out]
    rintro e w2 ⟨rfl, h9, _⟩
    (try clear x0 x1 x2 x3 x4 x5 x6 x7 xl Hx y0 y1 yl Hy z0 z1 zl Hz)
    have hx_ := (h9.fr.block (W.heap.size) (by first | (simp; done) | (simp; omega)) (by simp)).trans (show _ = some (.cells #[.int .i64 s, .slice a ns.length c, .int .i64 node, .bool nx, .slice ax dx.length cx, .bool ny, .slice ay dy.length cy, .int .i64 st] 58 (0, 0)) by (repeat (first | rw [if_pos (by omega)] | rw [if_neg (by omega)] | rw [hp_drew] | rw [hp_drewN] | rw [hp_alloc_size] | rw [hp_setCell_size] | rw [hp_alloc] | rw [hp_setCell] | rw [Option.map_some] | rw [upd_cells] | rw [List.set_cons_zero] | rw [List.set_cons_succ] | rfl)))
    have x0 := heap_eq_cell hx_ 0
    have x1 := heap_eq_cell hx_ 1
    have x2 := heap_eq_cell hx_ 2
    have x3 := heap_eq_cell hx_ 3
    have x4 := heap_eq_cell hx_ 4
    have x5 := heap_eq_cell hx_ 5
    have x6 := heap_eq_cell hx_ 6
    have x7 := heap_eq_cell hx_ 7
    have xl := lt_of_block hx_
    have Hx := Lib.hid hx_
    clear hx_
    have hy_ := (h9.fr.block (W.heap.size + 1) (by first | (simp; done) | (simp; omega)) (by simp)).trans (show _ = some (.cells #[.bool na, .slice aa da.length ca] 38 (0, 0)) by (repeat (first | rw [if_pos (by omega)] | rw [if_neg (by omega)] | rw [hp_drew] | rw [hp_drewN] | rw [hp_alloc_size] | rw [hp_setCell_size] | rw [hp_alloc] | rw [hp_setCell] | rw [Option.map_some] | rw [upd_cells] | rw [List.set_cons_zero] | rw [List.set_cons_succ] | rfl)))
    have y0 := heap_eq_cell hy_ 0
    have y1 := heap_eq_cell hy_ 1
    have yl := lt_of_block hy_
    have Hy := Lib.hid hy_
    clear hy_
    have hz_ := (h9.fr.block (W.heap.size + 2) (by first | (simp; done) | (simp; omega)) (by simp)).trans (show _ = some (.cells #[.bool nb, .slice ab db.length cb] 38 (0, 0)) by (repeat (first | rw [if_pos (by omega)] | rw [if_neg (by omega)] | rw [hp_drew] | rw [hp_drewN] | rw [hp_alloc_size] | rw [hp_setCell_size] | rw [hp_alloc] | rw [hp_setCell] | rw [Option.map_some] | rw [upd_cells] | rw [List.set_cons_zero] | rw [List.set_cons_succ] | rfl)))
    have z0 := heap_eq_cell hz_ 0
    have z1 := heap_eq_cell hz_ 1
    have zl := lt_of_block hz_
    have Hz := Lib.hid hz_
    clear hz_
    have H2 := Lib.hid h9
    clear h9 H1
    go_wp2_with fail
    refine (Get_q H2.out node (HIN.out.1.fr (Fr.trans0 (by (repeat (first | exact Fr.refl _ _ | assumption | apply Fr.drewN | apply Fr.drew | apply Fr.alloc | refine Fr.setCell ?_ (Or.inr (by simp; try omega)) _))) H2.out.fr)) (HIN.out.2.1.fr (Fr.trans0 (by (repeat (first | exact Fr.refl _ _ | assumption | apply Fr.drewN | apply Fr.drew | apply Fr.alloc | refine Fr.setCell ?_ (Or.inr (by simp; try omega)) _))) H2.out.fr))).mono ?_
    rw [HE2.out]
    rintro e w3 ⟨rfl, h9, _⟩
    (try clear x0 x1 x2 x3 x4 x5 x6 x7 xl Hx y0 y1 yl Hy z0 z1 zl Hz)
    have hx_ := (h9.fr.block (W.heap.size) (by first | (simp; done) | (simp; omega)) (by simp)).trans (show _ = some (.cells #[.int .i64 s, .slice a ns.length c, .int .i64 node, .bool nx, .slice ax dx.length cx, .bool ny, .slice ay dy.length cy, .int .i64 st] 58 (0, 0)) by (repeat (first | rw [if_pos (by omega)] | rw [if_neg (by omega)] | rw [hp_drew] | rw [hp_drewN] | rw [hp_alloc_size] | rw [hp_setCell_size] | rw [hp_alloc] | rw [hp_setCell] | rw [Option.map_some] | rw [upd_cells] | rw [List.set_cons_zero] | rw [List.set_cons_succ] | rfl)))
    have x0 := heap_eq_cell hx_ 0
    have x1 := heap_eq_cell hx_ 1
    have x2 := heap_eq_cell hx_ 2
    have x3 := heap_eq_cell hx_ 3
    have x4 := heap_eq_cell hx_ 4
    have x5 := heap_eq_cell hx_ 5
    have x6 := heap_eq_cell hx_ 6
    have x7 := heap_eq_cell hx_ 7
    have xl := lt_of_block hx_
    have Hx := Lib.hid hx_
    clear hx_
    have hy_ := (h9.fr.block (W.heap.size + 1) (by first | (simp; done) | (simp; omega)) (by simp)).trans (show _ = some (.cells #[.bool na, .slice aa da.length ca] 38 (0, 0)) by (repeat (first | rw [if_pos (by omega)] | rw [if_neg (by omega)] | rw [hp_drew] | rw [hp_drewN] | rw [hp_alloc_size] | rw [hp_setCell_size] | rw [hp_alloc] | rw [hp_setCell] | rw [Option.map_some] | rw [upd_cells] | rw [List.set_cons_zero] | rw [List.set_cons_succ] | rfl)))
    have y0 := heap_eq_cell hy_ 0
    have y1 := heap_eq_cell hy_ 1
    have yl := lt_of_block hy_
    have Hy := Lib.hid hy_
    clear hy_
    have hz_ := (h9.fr.block (W.heap.size + 2) (by first | (simp; done) | (simp; omega)) (by simp)).trans (show _ = some (.cells #[.bool nb, .slice ab db.length cb] 38 (0, 0)) by (repeat (first | rw [if_pos (by omega)] | rw [if_neg (by omega)] | rw [hp_drew] | rw [hp_drewN] | rw [hp_alloc_size] | rw [hp_setCell_size] | rw [hp_alloc] | rw [hp_setCell] | rw [Option.map_some] | rw [upd_cells] | rw [List.set_cons_zero] | rw [List.set_cons_succ] | rfl)))
    have z0 := heap_eq_cell hz_ 0
    have z1 := heap_eq_cell hz_ 1
    have zl := lt_of_block hz_
    have Hz := Lib.hid hz_
    clear hz_
    have H3 := Lib.hid h9
    clear h9 H2
    go_wp2_with fail
    refine (Set_q H3.out node (BigSrc.base (HIN.out.1.fr (by (repeat (first | exact Fr.refl _ _ | assumption | apply Fr.drewN | apply Fr.drew | apply Fr.alloc | refine Fr.setCell ?_ (Or.inr (by simp; try omega)) _))))) (BigSrc.base (HIN.out.2.1.fr (by (repeat (first | exact Fr.refl _ _ | assumption | apply Fr.drewN | apply Fr.drew | apply Fr.alloc | refine Fr.setCell ?_ (Or.inr (by simp; try omega)) _))))) st).mono ?_
    rw [HE3.out]
    rintro e w4 ⟨rfl, h9⟩
    (try clear x0 x1 x2 x3 x4 x5 x6 x7 xl Hx y0 y1 yl Hy z0 z1 zl Hz)
    have hx_ := (h9.fr.block (W.heap.size) (by first | (simp; done) | (simp; omega)) (by simp)).trans (show _ = some (.cells #[.int .i64 s, .slice a ns.length c, .int .i64 node, .bool nx, .slice ax dx.length cx, .bool ny, .slice ay dy.length cy, .int .i64 st] 58 (0, 0)) by (repeat (first | rw [if_pos (by omega)] | rw [if_neg (by omega)] | rw [hp_drew] | rw [hp_drewN] | rw [hp_alloc_size] | rw [hp_setCell_size] | rw [hp_alloc] | rw [hp_setCell] | rw [Option.map_some] | rw [upd_cells] | rw [List.set_cons_zero] | rw [List.set_cons_succ] | rfl)))
    have x0 := heap_eq_cell hx_ 0
    have x1 := heap_eq_cell hx_ 1
    have x2 := heap_eq_cell hx_ 2
    have x3 := heap_eq_cell hx_ 3
    have x4 := heap_eq_cell hx_ 4
    have x5 := heap_eq_cell hx_ 5
    have x6 := heap_eq_cell hx_ 6
    have x7 := heap_eq_cell hx_ 7
    have xl := lt_of_block hx_
    have Hx := Lib.hid hx_
    clear hx_
    have hy_ := (h9.fr.block (W.heap.size + 1) (by first | (simp; done) | (simp; omega)) (by simp)).trans (show _ = some (.cells #[.bool na, .slice aa da.length ca] 38 (0, 0)) by (repeat (first | rw [if_pos (by omega)] | rw [if_neg (by omega)] | rw [hp_drew] | rw [hp_drewN] | rw [hp_alloc_size] | rw [hp_setCell_size] | rw [hp_alloc] | rw [hp_setCell] | rw [Option.map_some] | rw [upd_cells] | rw [List.set_cons_zero] | rw [List.set_cons_succ] | rfl)))
    have y0 := heap_eq_cell hy_ 0
    have y1 := heap_eq_cell hy_ 1
    have yl := lt_of_block hy_
    have Hy := Lib.hid hy_
    clear hy_
    have hz_ := (h9.fr.block (W.heap.size + 2) (by first | (simp; done) | (simp; omega)) (by simp)).trans (show _ = some (.cells #[.bool nb, .slice ab db.length cb] 38 (0, 0)) by (repeat (first | rw [if_pos (by omega)] | rw [if_neg (by omega)] | rw [hp_drew] | rw [hp_drewN] | rw [hp_alloc_size] | rw [hp_setCell_size] | rw [hp_alloc] | rw [hp_setCell] | rw [Option.map_some] | rw [upd_cells] | rw [List.set_cons_zero] | rw [List.set_cons_succ] | rfl)))
    have z0 := heap_eq_cell hz_ 0
    have z1 := heap_eq_cell hz_ 1
    have zl := lt_of_block hz_
    have Hz := Lib.hid hz_
    clear hz_
    have H4 := Lib.hid h9
    clear h9 H3
    go_wp2_with fail
    refine (Set_q H4.out node (BigSrc.base (HIN.out.1.fr (by (repeat (first | exact Fr.refl _ _ | assumption | apply Fr.drewN | apply Fr.drew | apply Fr.alloc | refine Fr.setCell ?_ (Or.inr (by simp; try omega)) _))))) (BigSrc.base (HIN.out.2.1.fr (by (repeat (first | exact Fr.refl _ _ | assumption | apply Fr.drewN | apply Fr.drew | apply Fr.alloc | refine Fr.setCell ?_ (Or.inr (by simp; try omega)) _))))) old).mono ?_
    rw [HE4.out]
    rintro e w5 ⟨rfl, h9⟩
    (try clear x0 x1 x2 x3 x4 x5 x6 x7 xl Hx y0 y1 yl Hy z0 z1 zl Hz)
    have hx_ := (h9.fr.block (W.heap.size) (by first | (simp; done) | (simp; omega)) (by simp)).trans (show _ = some (.cells #[.int .i64 s, .slice a ns.length c, .int .i64 node, .bool nx, .slice ax dx.length cx, .bool ny, .slice ay dy.length cy, .int .i64 st] 58 (0, 0)) by (repeat (first | rw [if_pos (by omega)] | rw [if_neg (by omega)] | rw [hp_drew] | rw [hp_drewN] | rw [hp_alloc_size] | rw [hp_setCell_size] | rw [hp_alloc] | rw [hp_setCell] | rw [Option.map_some] | rw [upd_cells] | rw [List.set_cons_zero] | rw [List.set_cons_succ] | rfl)))
    have x0 := heap_eq_cell hx_ 0
    have x1 := heap_eq_cell hx_ 1
    have x2 := heap_eq_cell hx_ 2
    have x3 := heap_eq_cell hx_ 3
    have x4 := heap_eq_cell hx_ 4
    have x5 := heap_eq_cell hx_ 5
    have x6 := heap_eq_cell hx_ 6
    have x7 := heap_eq_cell hx_ 7
    have xl := lt_of_block hx_
    have Hx := Lib.hid hx_
    clear hx_
    have hy_ := (h9.fr.block (W.heap.size + 1) (by first | (simp; done) | (simp; omega)) (by simp)).trans (show _ = some (.cells #[.bool na, .slice aa da.length ca] 38 (0, 0)) by (repeat (first | rw [if_pos (by omega)] | rw [if_neg (by omega)] | rw [hp_drew] | rw [hp_drewN] | rw [hp_alloc_size] | rw [hp_setCell_size] | rw [hp_alloc] | rw [hp_setCell] | rw [Option.map_some] | rw [upd_cells] | rw [List.set_cons_zero] | rw [List.set_cons_succ] | rfl)))
    have y0 := heap_eq_cell hy_ 0
    have y1 := heap_eq_cell hy_ 1
    have yl := lt_of_block hy_
    have Hy := Lib.hid hy_
    clear hy_
    have hz_ := (h9.fr.block (W.heap.size + 2) (by first | (simp; done) | (simp; omega)) (by simp)).trans (show _ = some (.cells #[.bool nb, .slice ab db.length cb] 38 (0, 0)) by (repeat (first | rw [if_pos (by omega)] | rw [if_neg (by omega)] | rw [hp_drew] | rw [hp_drewN] | rw [hp_alloc_size] | rw [hp_setCell_size] | rw [hp_alloc] | rw [hp_setCell] | rw [Option.map_some] | rw [upd_cells] | rw [List.set_cons_zero] | rw [List.set_cons_succ] | rfl)))
    have z0 := heap_eq_cell hz_ 0
    have z1 := heap_eq_cell hz_ 1
    have zl := lt_of_block hz_
    have Hz := Lib.hid hz_
    clear hz_
    have H5 := Lib.hid h9
    clear h9 H4
    go_wp2_with fail
    refine (Get_q H5.out id (HIN.out.1.fr (Fr.trans0 (by (repeat (first | exact Fr.refl _ _ | assumption | apply Fr.drewN | apply Fr.drew | apply Fr.alloc | refine Fr.setCell ?_ (Or.inr (by simp; try omega)) _))) H5.out.fr)) (HIN.out.2.1.fr (Fr.trans0 (by (repeat (first | exact Fr.refl _ _ | assumption | apply Fr.drewN | apply Fr.drew | apply Fr.alloc | refine Fr.setCell ?_ (Or.inr (by simp; try omega)) _))) H5.out.fr))).mono ?_
    rw [HE5.out]
    rintro e w6 ⟨rfl, h9, _⟩
    (try clear x0 x1 x2 x3 x4 x5 x6 x7 xl Hx y0 y1 yl Hy z0 z1 zl Hz)
    have hx_ := (h9.fr.block (W.heap.size) (by first | (simp; done) | (simp; omega)) (by simp)).trans (show _ = some (.cells #[.int .i64 s, .slice a ns.length c, .int .i64 node, .bool nx, .slice ax dx.length cx, .bool ny, .slice ay dy.length cy, .int .i64 st] 58 (0, 0)) by (repeat (first | rw [if_pos (by omega)] | rw [if_neg (by omega)] | rw [hp_drew] | rw [hp_drewN] | rw [hp_alloc_size] | rw [hp_setCell_size] | rw [hp_alloc] | rw [hp_setCell] | rw [Option.map_some] | rw [upd_cells] | rw [List.set_cons_zero] | rw [List.set_cons_succ] | rfl)))
    have x0 := heap_eq_cell hx_ 0
    have x1 := heap_eq_cell hx_ 1
    have x2 := heap_eq_cell hx_ 2
    have x3 := heap_eq_cell hx_ 3
    have x4 := heap_eq_cell hx_ 4
    have x5 := heap_eq_cell hx_ 5
    have x6 := heap_eq_cell hx_ 6
    have x7 := heap_eq_cell hx_ 7
    have xl := lt_of_block hx_
    have Hx := Lib.hid hx_
    clear hx_
    have hy_ := (h9.fr.block (W.heap.size + 1) (by first | (simp; done) | (simp; omega)) (by simp)).trans (show _ = some (.cells #[.bool na, .slice aa da.length ca] 38 (0, 0)) by (repeat (first | rw [if_pos (by omega)] | rw [if_neg (by omega)] | rw [hp_drew] | rw [hp_drewN] | rw [hp_alloc_size] | rw [hp_setCell_size] | rw [hp_alloc] | rw [hp_setCell] | rw [Option.map_some] | rw [upd_cells] | rw [List.set_cons_zero] | rw [List.set_cons_succ] | rfl)))
    have y0 := heap_eq_cell hy_ 0
    have y1 := heap_eq_cell hy_ 1
    have yl := lt_of_block hy_
    have Hy := Lib.hid hy_
    clear hy_
    have hz_ := (h9.fr.block (W.heap.size + 2) (by first | (simp; done) | (simp; omega)) (by simp)).trans (show _ = some (.cells #[.bool nb, .slice ab db.length cb] 38 (0, 0)) by (repeat (first | rw [if_pos (by omega)] | rw [if_neg (by omega)] | rw [hp_drew] | rw [hp_drewN] | rw [hp_alloc_size] | rw [hp_setCell_size] | rw [hp_alloc] | rw [hp_setCell] | rw [Option.map_some] | rw [upd_cells] | rw [List.set_cons_zero] | rw [List.set_cons_succ] | rfl)))
    have z0 := heap_eq_cell hz_ 0
    have z1 := heap_eq_cell hz_ 1
    have zl := lt_of_block hz_
    have Hz := Lib.hid hz_
    clear hz_
    have H6 := Lib.hid h9
    clear h9 H5
    go_wp2_with fail
    refine (Get_q H6.out id (HIN.out.2.2.1.fr (Fr.trans0 (by (repeat (first | exact Fr.refl _ _ | assumption | apply Fr.drewN | apply Fr.drew | apply Fr.alloc | refine Fr.setCell ?_ (Or.inr (by simp; try omega)) _))) H6.out.fr)) (HIN.out.2.2.2.fr (Fr.trans0 (by (repeat (first | exact Fr.refl _ _ | assumption | apply Fr.drewN | apply Fr.drew | apply Fr.alloc | refine Fr.setCell ?_ (Or.inr (by simp; try omega)) _))) H6.out.fr))).mono ?_
    rw [HE6.out]
    rintro e w7 ⟨rfl, h9, _⟩
    (try clear x0 x1 x2 x3 x4 x5 x6 x7 xl Hx y0 y1 yl Hy z0 z1 zl Hz)
    have hx_ := (h9.fr.block (W.heap.size) (by first | (simp; done) | (simp; omega)) (by simp)).trans (show _ = some (.cells #[.int .i64 s, .slice a ns.length c, .int .i64 node, .bool nx, .slice ax dx.length cx, .bool ny, .slice ay dy.length cy, .int .i64 st] 58 (0, 0)) by (repeat (first | rw [if_pos (by omega)] | rw [if_neg (by omega)] | rw [hp_drew] | rw [hp_drewN] | rw [hp_alloc_size] | rw [hp_setCell_size] | rw [hp_alloc] | rw [hp_setCell] | rw [Option.map_some] | rw [upd_cells] | rw [List.set_cons_zero] | rw [List.set_cons_succ] | rfl)))
    have x0 := heap_eq_cell hx_ 0
    have x1 := heap_eq_cell hx_ 1
    have x2 := heap_eq_cell hx_ 2
    have x3 := heap_eq_cell hx_ 3
    have x4 := heap_eq_cell hx_ 4
    have x5 := heap_eq_cell hx_ 5
    have x6 := heap_eq_cell hx_ 6
    have x7 := heap_eq_cell hx_ 7
    have xl := lt_of_block hx_
    have Hx := Lib.hid hx_
    clear hx_
    have hy_ := (h9.fr.block (W.heap.size + 1) (by first | (simp; done) | (simp; omega)) (by simp)).trans (show _ = some (.cells #[.bool na, .slice aa da.length ca] 38 (0, 0)) by (repeat (first | rw [if_pos (by omega)] | rw [if_neg (by omega)] | rw [hp_drew] | rw [hp_drewN] | rw [hp_alloc_size] | rw [hp_setCell_size] | rw [hp_alloc] | rw [hp_setCell] | rw [Option.map_some] | rw [upd_cells] | rw [List.set_cons_zero] | rw [List.set_cons_succ] | rfl)))
    have y0 := heap_eq_cell hy_ 0
    have y1 := heap_eq_cell hy_ 1
    have yl := lt_of_block hy_
    have Hy := Lib.hid hy_
    clear hy_
    have hz_ := (h9.fr.block (W.heap.size + 2) (by first | (simp; done) | (simp; omega)) (by simp)).trans (show _ = some (.cells #[.bool nb, .slice ab db.length cb] 38 (0, 0)) by (repeat (first | rw [if_pos (by omega)] | rw [if_neg (by omega)] | rw [hp_drew] | rw [hp_drewN] | rw [hp_alloc_size] | rw [hp_setCell_size] | rw [hp_alloc] | rw [hp_setCell] | rw [Option.map_some] | rw [upd_cells] | rw [List.set_cons_zero] | rw [List.set_cons_succ] | rfl)))
    have z0 := heap_eq_cell hz_ 0
    have z1 := heap_eq_cell hz_ 1
    have zl := lt_of_block hz_
    have Hz := Lib.hid hz_
    clear hz_
    have H7 := Lib.hid h9
    clear h9 H6
    go_wp2_with fail
    refine (equal_q (HIN.out.2.2.1.fr (Fr.trans0 (by (repeat (first | exact Fr.refl _ _ | assumption | apply Fr.drewN | apply Fr.drew | apply Fr.alloc | refine Fr.setCell ?_ (Or.inr (by simp; try omega)) _))) H7.out.fr)) (HIN.out.1.fr (Fr.trans0 (by (repeat (first | exact Fr.refl _ _ | assumption | apply Fr.drewN | apply Fr.drew | apply Fr.alloc | refine Fr.setCell ?_ (Or.inr (by simp; try omega)) _))) H7.out.fr)) HSZ.out.1).mono ?_
    rw [HQ1.out]
    rintro e w8 ⟨rfl, hf⟩
    have h9 := H7.out.step hf
    (try clear x0 x1 x2 x3 x4 x5 x6 x7 xl Hx y0 y1 yl Hy z0 z1 zl Hz)
    have hx_ := (h9.fr.block (W.heap.size) (by first | (simp; done) | (simp; omega)) (by simp)).trans (show _ = some (.cells #[.int .i64 s, .slice a ns.length c, .int .i64 node, .bool nx, .slice ax dx.length cx, .bool ny, .slice ay dy.length cy, .int .i64 st] 58 (0, 0)) by (repeat (first | rw [if_pos (by omega)] | rw [if_neg (by omega)] | rw [hp_drew] | rw [hp_drewN] | rw [hp_alloc_size] | rw [hp_setCell_size] | rw [hp_alloc] | rw [hp_setCell] | rw [Option.map_some] | rw [upd_cells] | rw [List.set_cons_zero] | rw [List.set_cons_succ] | rfl)))
    have x0 := heap_eq_cell hx_ 0
    have x1 := heap_eq_cell hx_ 1
    have x2 := heap_eq_cell hx_ 2
    have x3 := heap_eq_cell hx_ 3
    have x4 := heap_eq_cell hx_ 4
    have x5 := heap_eq_cell hx_ 5
    have x6 := heap_eq_cell hx_ 6
    have x7 := heap_eq_cell hx_ 7
    have xl := lt_of_block hx_
    have Hx := Lib.hid hx_
    clear hx_
    have hy_ := (h9.fr.block (W.heap.size + 1) (by first | (simp; done) | (simp; omega)) (by simp)).trans (show _ = some (.cells #[.bool na, .slice aa da.length ca] 38 (0, 0)) by (repeat (first | rw [if_pos (by omega)] | rw [if_neg (by omega)] | rw [hp_drew] | rw [hp_drewN] | rw [hp_alloc_size] | rw [hp_setCell_size] | rw [hp_alloc] | rw [hp_setCell] | rw [Option.map_some] | rw [upd_cells] | rw [List.set_cons_zero] | rw [List.set_cons_succ] | rfl)))
    have y0 := heap_eq_cell hy_ 0
    have y1 := heap_eq_cell hy_ 1
    have yl := lt_of_block hy_
    have Hy := Lib.hid hy_
    clear hy_
    have hz_ := (h9.fr.block (W.heap.size + 2) (by first | (simp; done) | (simp; omega)) (by simp)).trans (show _ = some (.cells #[.bool nb, .slice ab db.length cb] 38 (0, 0)) by (repeat (first | rw [if_pos (by omega)] | rw [if_neg (by omega)] | rw [hp_drew] | rw [hp_drewN] | rw [hp_alloc_size] | rw [hp_setCell_size] | rw [hp_alloc] | rw [hp_setCell] | rw [Option.map_some] | rw [upd_cells] | rw [List.set_cons_zero] | rw [List.set_cons_succ] | rfl)))
    have z0 := heap_eq_cell hz_ 0
    have z1 := heap_eq_cell hz_ 1
    have zl := lt_of_block hz_
    have Hz := Lib.hid hz_
    clear hz_
    have H8 := Lib.hid h9
    clear h9 H7 hf
    go_wp2_with fail
    refine (equal_q (HIN.out.2.2.2.fr (Fr.trans0 (by (repeat (first | exact Fr.refl _ _ | assumption | apply Fr.drewN | apply Fr.drew | apply Fr.alloc | refine Fr.setCell ?_ (Or.inr (by simp; try omega)) _))) H8.out.fr)) (HIN.out.2.1.fr (Fr.trans0 (by (repeat (first | exact Fr.refl _ _ | assumption | apply Fr.drewN | apply Fr.drew | apply Fr.alloc | refine Fr.setCell ?_ (Or.inr (by simp; try omega)) _))) H8.out.fr)) HSZ.out.2).mono ?_
    rw [HQ2.out]
    rintro e w10 ⟨rfl, hf⟩
    have h9 := H8.out.step hf
    (try clear x0 x1 x2 x3 x4 x5 x6 x7 xl Hx y0 y1 yl Hy z0 z1 zl Hz)
    have hx_ := (h9.fr.block (W.heap.size) (by first | (simp; done) | (simp; omega)) (by simp)).trans (show _ = some (.cells #[.int .i64 s, .slice a ns.length c, .int .i64 node, .bool nx, .slice ax dx.length cx, .bool ny, .slice ay dy.length cy, .int .i64 st] 58 (0, 0)) by (repeat (first | rw [if_pos (by omega)] | rw [if_neg (by omega)] | rw [hp_drew] | rw [hp_drewN] | rw [hp_alloc_size] | rw [hp_setCell_size] | rw [hp_alloc] | rw [hp_setCell] | rw [Option.map_some] | rw [upd_cells] | rw [List.set_cons_zero] | rw [List.set_cons_succ] | rfl)))
    have x0 := heap_eq_cell hx_ 0
    have x1 := heap_eq_cell hx_ 1
    have x2 := heap_eq_cell hx_ 2
    have x3 := heap_eq_cell hx_ 3
    have x4 := heap_eq_cell hx_ 4
    have x5 := heap_eq_cell hx_ 5
    have x6 := heap_eq_cell hx_ 6
    have x7 := heap_eq_cell hx_ 7
    have xl := lt_of_block hx_
    have Hx := Lib.hid hx_
    clear hx_
    have hy_ := (h9.fr.block (W.heap.size + 1) (by first | (simp; done) | (simp; omega)) (by simp)).trans (show _ = some (.cells #[.bool na, .slice aa da.length ca] 38 (0, 0)) by (repeat (first | rw [if_pos (by omega)] | rw [if_neg (by omega)] | rw [hp_drew] | rw [hp_drewN] | rw [hp_alloc_size] | rw [hp_setCell_size] | rw [hp_alloc] | rw [hp_setCell] | rw [Option.map_some] | rw [upd_cells] | rw [List.set_cons_zero] | rw [List.set_cons_succ] | rfl)))
    have y0 := heap_eq_cell hy_ 0
    have y1 := heap_eq_cell hy_ 1
    have yl := lt_of_block hy_
    have Hy := Lib.hid hy_
    clear hy_
    have hz_ := (h9.fr.block (W.heap.size + 2) (by first | (simp; done) | (simp; omega)) (by simp)).trans (show _ = some (.cells #[.bool nb, .slice ab db.length cb] 38 (0, 0)) by (repeat (first | rw [if_pos (by omega)] | rw [if_neg (by omega)] | rw [hp_drew] | rw [hp_drewN] | rw [hp_alloc_size] | rw [hp_setCell_size] | rw [hp_alloc] | rw [hp_setCell] | rw [Option.map_some] | rw [upd_cells] | rw [List.set_cons_zero] | rw [List.set_cons_succ] | rfl)))
    have z0 := heap_eq_cell hz_ 0
    have z1 := heap_eq_cell hz_ 1
    have zl := lt_of_block hz_
    have Hz := Lib.hid hz_
    clear hz_
    have H9 := Lib.hid h9
    clear h9 H8 hf
    go_wp2_with fail
    refine (awake_q _).mono ?_
    rintro e w9 ⟨rfl, hf9⟩
    have Hf9 := Lib.hid (Fr.trans0 (by (repeat (first | exact Fr.refl _ _ | assumption | apply Fr.drewN | apply Fr.drew | apply Fr.alloc | refine Fr.setCell ?_ (Or.inr (by simp; try omega)) _)) : Fr [] W _) (H9.out.fr.trans0 (Fr.trans0 (by (repeat (first | exact Fr.refl _ _ | assumption | apply Fr.drewN | apply Fr.drew | apply Fr.alloc | refine Fr.setCell ?_ (Or.inr (by simp; try omega)) _))) hf9)))
    clear hf9
    go_wp2
    go_ret
    exact ⟨rfl, Hf9.out⟩
  have HQ2 := Lib.hid (show decide (nb = ny ∧ db = dy) = true by simpa using hq2)
  obtain rfl := (hv1 ⟨hq1, hq2⟩).symm
  clear hE1 hp hst hlen hg hC hE6 hv1 hv2 hq1 hq2 dga dgb dgx dgy
  go_enter Try.func5, Try.ntmps5
  go_wp2_with fail
  refine (HLD.out _ (by (repeat (first | exact Fr.refl _ _ | assumption | apply Fr.drewN | apply Fr.drew | apply Fr.alloc | refine Fr.setCell ?_ (Or.inr (by simp; try omega)) _)))).mono ?_
  rintro e w1 ⟨h1, _⟩
  obtain ⟨b, r, rfl, h9⟩ := h1 Hok.out
  (try clear x0 x1 x2 x3 x4 x5 x6 x7 xl Hx y0 y1 yl Hy z0 z1 zl Hz)
  have hx_ := (h9.fr.block (W.heap.size) (by first | (simp; done) | (simp; omega)) (by simp)).trans (show _ = some (.cells #[.int .i64 s, .slice a ns.length c, .int .i64 node, .bool nx, .slice ax dx.length cx, .bool ny, .slice ay dy.length cy, .int .i64 st] 58 (0, 0)) by (repeat (first | rw [if_pos (by omega)] | rw [if_neg (by omega)] | rw [hp_drew] | rw [hp_drewN] | rw [hp_alloc_size] | rw [hp_setCell_size] | rw [hp_alloc] | rw [hp_setCell] | rw [Option.map_some] | rw [upd_cells] | rw [List.set_cons_zero] | rw [List.set_cons_succ] | rfl)))
  have x0 := heap_eq_cell hx_ 0
  have x1 := heap_eq_cell hx_ 1
  have x2 := heap_eq_cell hx_ 2
  have x3 := heap_eq_cell hx_ 3
  have x4 := heap_eq_cell hx_ 4
  have x5 := heap_eq_cell hx_ 5
  have x6 := heap_eq_cell hx_ 6
  have x7 := heap_eq_cell hx_ 7
  have xl := lt_of_block hx_
  have Hx := Lib.hid hx_
  clear hx_
  have hy_ := (h9.fr.block (W.heap.size + 1) (by first | (simp; done) | (simp; omega)) (by simp)).trans (show _ = some (.cells #[.bool na, .slice aa da.length ca] 38 (0, 0)) by (repeat (first | rw [if_pos (by omega)] | rw [if_neg (by omega)] | rw [hp_drew] | rw [hp_drewN] | rw [hp_alloc_size] | rw [hp_setCell_size] | rw [hp_alloc] | rw [hp_setCell] | rw [Option.map_some] | rw [upd_cells] | rw [List.set_cons_zero] | rw [List.set_cons_succ] | rfl)))
  have y0 := heap_eq_cell hy_ 0
  have y1 := heap_eq_cell hy_ 1
  have yl := lt_of_block hy_
  have Hy := Lib.hid hy_
  clear hy_
  have hz_ := (h9.fr.block (W.heap.size + 2) (by first | (simp; done) | (simp; omega)) (by simp)).trans (show _ = some (.cells #[.bool nb, .slice ab db.length cb] 38 (0, 0)) by (repeat (first | rw [if_pos (by omega)] | rw [if_neg (by omega)] | rw [hp_drew] | rw [hp_drewN] | rw [hp_alloc_size] | rw [hp_setCell_size] | rw [hp_alloc] | rw [hp_setCell] | rw [Option.map_some] | rw [upd_cells] | rw [List.set_cons_zero] | rw [List.set_cons_succ] | rfl)))
  have z0 := heap_eq_cell hz_ 0
  have z1 := heap_eq_cell hz_ 1
  have zl := lt_of_block hz_
  have Hz := Lib.hid hz_
  clear hz_
  have H1 := Lib.hid h9
  clear h1 h9
  go_wp2_with fail
  refine (Get_q H1.out node (HIN.out.2.2.1.fr (Fr.trans0 (by (repeat (first | exact Fr.refl _ _ | assumption | apply Fr.drewN | apply Fr.drew | apply Fr.alloc | refine Fr.setCell ?_ (Or.inr (by simp; try omega)) _))) H1.out.fr)) (HIN.out.2.2.2.fr (Fr.trans0 (by (repeat (first | exact Fr.refl _ _ | assumption | apply Fr.drewN | apply Fr.drew | apply Fr.alloc | refine Fr.setCell ?_ (Or.inr (by simp; try omega)) _))) H1.out.fr))).mono ?_
  rw [HE1.out]
  rintro e w2 ⟨rfl, h9, _⟩
  (try clear x0 x1 x2 x3 x4 x5 x6 x7 xl Hx y0 y1 yl Hy z0 z1 zl Hz)
  have hx_ := (h9.fr.block (W.heap.size) (by first | (simp; done) | (simp; omega)) (by simp)).trans (show _ = some (.cells #[.int .i64 s, .slice a ns.length c, .int .i64 node, .bool nx, .slice ax dx.length cx, .bool ny, .slice ay dy.length cy, .int .i64 st] 58 (0, 0)) by (repeat (first | rw [if_pos (by omega)] | rw [if_neg (by omega)] | rw [hp_drew] | rw [hp_drewN] | rw [hp_alloc_size] | rw [hp_setCell_size] | rw [hp_alloc] | rw [hp_setCell] | rw [Option.map_some] | rw [upd_cells] | rw [List.set_cons_zero] | rw [List.set_cons_succ] | rfl)))
  have x0 := heap_eq_cell hx_ 0
  have x1 := heap_eq_cell hx_ 1
  have x2 := heap_eq_cell hx_ 2
  have x3 := heap_eq_cell hx_ 3
  have x4 := heap_eq_cell hx_ 4
  have x5 := heap_eq_cell hx_ 5
  have x6 := heap_eq_cell hx_ 6
  have x7 := heap_eq_cell hx_ 7
  have xl := lt_of_block hx_
  have Hx := Lib.hid hx_
  clear hx_
  have hy_ := (h9.fr.block (W.heap.size + 1) (by first | (simp; done) | (simp; omega)) (by simp)).trans (show _ = some (.cells #[.bool na, .slice aa da.length ca] 38 (0, 0)) by (repeat (first | rw [if_pos (by omega)] | rw [if_neg (by omega)] | rw [hp_drew] | rw [hp_drewN] | rw [hp_alloc_size] | rw [hp_setCell_size] | rw [hp_alloc] | rw [hp_setCell] | rw [Option.map_some] | rw [upd_cells] | rw [List.set_cons_zero] | rw [List.set_cons_succ] | rfl)))
  have y0 := heap_eq_cell hy_ 0
  have y1 := heap_eq_cell hy_ 1
  have yl := lt_of_block hy_
  have Hy := Lib.hid hy_
  clear hy_
  have hz_ := (h9.fr.block (W.heap.size + 2) (by first | (simp; done) | (simp; omega)) (by simp)).trans (show _ = some (.cells #[.bool nb, .slice ab db.length cb] 38 (0, 0)) by (repeat (first | rw [if_pos (by omega)] | rw [if_neg (by omega)] | rw [hp_drew] | rw [hp_drewN] | rw [hp_alloc_size] | rw [hp_setCell_size] | rw [hp_alloc] | rw [hp_setCell] | rw [Option.map_some] | rw [upd_cells] | rw [List.set_cons_zero] | rw [List.set_cons_succ] | rfl)))
  have z0 := heap_eq_cell hz_ 0
  have z1 := heap_eq_cell hz_ 1
  have zl := lt_of_block hz_
  have Hz := Lib.hid hz_
  clear hz_
  have H2 := Lib.hid h9
  clear h9 H1
  go_wp2_with fail
  refine (Get_q H2.out node (HIN.out.1.fr (Fr.trans0 (by (repeat (first | exact Fr.refl _ _ | assumption | apply Fr.drewN | apply Fr.drew | apply Fr.alloc | refine Fr.setCell ?_ (Or.inr (by simp; try omega)) _))) H2.out.fr)) (HIN.out.2.1.fr (Fr.trans0 (by (repeat (first | exact Fr.refl _ _ | assumption | apply Fr.drewN | apply Fr.drew | apply Fr.alloc | refine Fr.setCell ?_ (Or.inr (by simp; try omega)) _))) H2.out.fr))).mono ?_
  rw [HE2.out]
  rintro e w3 ⟨rfl, h9, _⟩
  (try clear x0 x1 x2 x3 x4 x5 x6 x7 xl Hx y0 y1 yl Hy z0 z1 zl Hz)
  have hx_ := (h9.fr.block (W.heap.size) (by first | (simp; done) | (simp; omega)) (by simp)).trans (show _ = some (.cells #[.int .i64 s, .slice a ns.length c, .int .i64 node, .bool nx, .slice ax dx.length cx, .bool ny, .slice ay dy.length cy, .int .i64 st] 58 (0, 0)) by (repeat (first | rw [if_pos (by omega)] | rw [if_neg (by omega)] | rw [hp_drew] | rw [hp_drewN] | rw [hp_alloc_size] | rw [hp_setCell_size] | rw [hp_alloc] | rw [hp_setCell] | rw [Option.map_some] | rw [upd_cells] | rw [List.set_cons_zero] | rw [List.set_cons_succ] | rfl)))
  have x0 := heap_eq_cell hx_ 0
  have x1 := heap_eq_cell hx_ 1
  have x2 := heap_eq_cell hx_ 2
  have x3 := heap_eq_cell hx_ 3
  have x4 := heap_eq_cell hx_ 4
  have x5 := heap_eq_cell hx_ 5
  have x6 := heap_eq_cell hx_ 6
  have x7 := heap_eq_cell hx_ 7
  have xl := lt_of_block hx_
  have Hx := Lib.hid hx_
  clear hx_
  have hy_ := (h9.fr.block (W.heap.size + 1) (by first | (simp; done) | (simp; omega)) (by simp)).trans (show _ = some (.cells #[.bool na, .slice aa da.length ca] 38 (0, 0)) by (repeat (first | rw [if_pos (by omega)] | rw [if_neg (by omega)] | rw [hp_drew] | rw [hp_drewN] | rw [hp_alloc_size] | rw [hp_setCell_size] | rw [hp_alloc] | rw [hp_setCell] | rw [Option.map_some] | rw [upd_cells] | rw [List.set_cons_zero] | rw [List.set_cons_succ] | rfl)))
  have y0 := heap_eq_cell hy_ 0
  have y1 := heap_eq_cell hy_ 1
  have yl := lt_of_block hy_
  have Hy := Lib.hid hy_
  clear hy_
  have hz_ := (h9.fr.block (W.heap.size + 2) (by first | (simp; done) | (simp; omega)) (by simp)).trans (show _ = some (.cells #[.bool nb, .slice ab db.length cb] 38 (0, 0)) by (repeat (first | rw [if_pos (by omega)] | rw [if_neg (by omega)] | rw [hp_drew] | rw [hp_drewN] | rw [hp_alloc_size] | rw [hp_setCell_size] | rw [hp_alloc] | rw [hp_setCell] | rw [Option.map_some] | rw [upd_cells] | rw [List.set_cons_zero] | rw [List.set_cons_succ] | rfl)))
  have z0 := heap_eq_cell hz_ 0
  have z1 := heap_eq_cell hz_ 1
  have zl := lt_of_block hz_
  have Hz := Lib.hid hz_
  clear hz_
  have H3 := Lib.hid h9
  clear h9 H2
  go_wp2_with fail
  refine (Set_q H3.out node (BigSrc.base (HIN.out.1.fr (by (repeat (first | exact Fr.refl _ _ | assumption | apply Fr.drewN | apply Fr.drew | apply Fr.alloc | refine Fr.setCell ?_ (Or.inr (by simp; try omega)) _))))) (BigSrc.base (HIN.out.2.1.fr (by (repeat (first | exact Fr.refl _ _ | assumption | apply Fr.drewN | apply Fr.drew | apply Fr.alloc | refine Fr.setCell ?_ (Or.inr (by simp; try omega)) _))))) st).mono ?_
  rw [HE3.out]
  rintro e w4 ⟨rfl, h9⟩
  (try clear x0 x1 x2 x3 x4 x5 x6 x7 xl Hx y0 y1 yl Hy z0 z1 zl Hz)
  have hx_ := (h9.fr.block (W.heap.size) (by first | (simp; done) | (simp; omega)) (by simp)).trans (show _ = some (.cells #[.int .i64 s, .slice a ns.length c, .int .i64 node, .bool nx, .slice ax dx.length cx, .bool ny, .slice ay dy.length cy, .int .i64 st] 58 (0, 0)) by (repeat (first | rw [if_pos (by omega)] | rw [if_neg (by omega)] | rw [hp_drew] | rw [hp_drewN] | rw [hp_alloc_size] | rw [hp_setCell_size] | rw [hp_alloc] | rw [hp_setCell] | rw [Option.map_some] | rw [upd_cells] | rw [List.set_cons_zero] | rw [List.set_cons_succ] | rfl)))
  have x0 := heap_eq_cell hx_ 0
  have x1 := heap_eq_cell hx_ 1
  have x2 := heap_eq_cell hx_ 2
  have x3 := heap_eq_cell hx_ 3
  have x4 := heap_eq_cell hx_ 4
  have x5 := heap_eq_cell hx_ 5
  have x6 := heap_eq_cell hx_ 6
  have x7 := heap_eq_cell hx_ 7
  have xl := lt_of_block hx_
  have Hx := Lib.hid hx_
  clear hx_
  have hy_ := (h9.fr.block (W.heap.size + 1) (by first | (simp; done) | (simp; omega)) (by simp)).trans (show _ = some (.cells #[.bool na, .slice aa da.length ca] 38 (0, 0)) by (repeat (first | rw [if_pos (by omega)] | rw [if_neg (by omega)] | rw [hp_drew] | rw [hp_drewN] | rw [hp_alloc_size] | rw [hp_setCell_size] | rw [hp_alloc] | rw [hp_setCell] | rw [Option.map_some] | rw [upd_cells] | rw [List.set_cons_zero] | rw [List.set_cons_succ] | rfl)))
  have y0 := heap_eq_cell hy_ 0
  have y1 := heap_eq_cell hy_ 1
  have yl := lt_of_block hy_
  have Hy := Lib.hid hy_
  clear hy_
  have hz_ := (h9.fr.block (W.heap.size + 2) (by first | (simp; done) | (simp; omega)) (by simp)).trans (show _ = some (.cells #[.bool nb, .slice ab db.length cb] 38 (0, 0)) by (repeat (first | rw [if_pos (by omega)] | rw [if_neg (by omega)] | rw [hp_drew] | rw [hp_drewN] | rw [hp_alloc_size] | rw [hp_setCell_size] | rw [hp_alloc] | rw [hp_setCell] | rw [Option.map_some] | rw [upd_cells] | rw [List.set_cons_zero] | rw [List.set_cons_succ] | rfl)))
  have z0 := heap_eq_cell hz_ 0
  have z1 := heap_eq_cell hz_ 1
  have zl := lt_of_block hz_
  have Hz := Lib.hid hz_
  clear hz_
  have H4 := Lib.hid h9
  clear h9 H3
  go_wp2_with fail
  refine (Set_q H4.out node (BigSrc.base (HIN.out.1.fr (by (repeat (first | exact Fr.refl _ _ | assumption | apply Fr.drewN | apply Fr.drew | apply Fr.alloc | refine Fr.setCell ?_ (Or.inr (by simp; try omega)) _))))) (BigSrc.base (HIN.out.2.1.fr (by (repeat (first | exact Fr.refl _ _ | assumption | apply Fr.drewN | apply Fr.drew | apply Fr.alloc | refine Fr.setCell ?_ (Or.inr (by simp; try omega)) _))))) old).mono ?_
  rw [HE4.out]
  rintro e w5 ⟨rfl, h9⟩
  (try clear x0 x1 x2 x3 x4 x5 x6 x7 xl Hx y0 y1 yl Hy z0 z1 zl Hz)
  have hx_ := (h9.fr.block (W.heap.size) (by first | (simp; done) | (simp; omega)) (by simp)).trans (show _ = some (.cells #[.int .i64 s, .slice a ns.length c, .int .i64 node, .bool nx, .slice ax dx.length cx, .bool ny, .slice ay dy.length cy, .int .i64 st] 58 (0, 0)) by (repeat (first | rw [if_pos (by omega)] | rw [if_neg (by omega)] | rw [hp_drew] | rw [hp_drewN] | rw [hp_alloc_size] | rw [hp_setCell_size] | rw [hp_alloc] | rw [hp_setCell] | rw [Option.map_some] | rw [upd_cells] | rw [List.set_cons_zero] | rw [List.set_cons_succ] | rfl)))
  have x0 := heap_eq_cell hx_ 0
  have x1 := heap_eq_cell hx_ 1
  have x2 := heap_eq_cell hx_ 2
  have x3 := heap_eq_cell hx_ 3
  have x4 := heap_eq_cell hx_ 4
  have x5 := heap_eq_cell hx_ 5
  have x6 := heap_eq_cell hx_ 6
  have x7 := heap_eq_cell hx_ 7
  have xl := lt_of_block hx_
  have Hx := Lib.hid hx_
  clear hx_
  have hy_ := (h9.fr.block (W.heap.size + 1) (by first | (simp; done) | (simp; omega)) (by simp)).trans (show _ = some (.cells #[.bool na, .slice aa da.length ca] 38 (0, 0)) by (repeat (first | rw [if_pos (by omega)] | rw [if_neg (by omega)] | rw [hp_drew] | rw [hp_drewN] | rw [hp_alloc_size] | rw [hp_setCell_size] | rw [hp_alloc] | rw [hp_setCell] | rw [Option.map_some] | rw [upd_cells] | rw [List.set_cons_zero] | rw [List.set_cons_succ] | rfl)))
  have y0 := heap_eq_cell hy_ 0
  have y1 := heap_eq_cell hy_ 1
  have yl := lt_of_block hy_
  have Hy := Lib.hid hy_
  clear hy_
  have hz_ := (h9.fr.block (W.heap.size + 2) (by first | (simp; done) | (simp; omega)) (by simp)).trans (show _ = some (.cells #[.bool nb, .slice ab db.length cb] 38 (0, 0)) by (repeat (first | rw [if_pos (by omega)] | rw [if_neg (by omega)] | rw [hp_drew] | rw [hp_drewN] | rw [hp_alloc_size] | rw [hp_setCell_size] | rw [hp_alloc] | rw [hp_setCell] | rw [Option.map_some] | rw [upd_cells] | rw [List.set_cons_zero] | rw [List.set_cons_succ] | rfl)))
  have z0 := heap_eq_cell hz_ 0
  have z1 := heap_eq_cell hz_ 1
  have zl := lt_of_block hz_
  have Hz := Lib.hid hz_
  clear hz_
  have H5 := Lib.hid h9
  clear h9 H4
  go_wp2_with fail
  refine (Get_q H5.out id (HIN.out.1.fr (Fr.trans0 (by (repeat (first | exact Fr.refl _ _ | assumption | apply Fr.drewN | apply Fr.drew | apply Fr.alloc | refine Fr.setCell ?_ (Or.inr (by simp; try omega)) _))) H5.out.fr)) (HIN.out.2.1.fr (Fr.trans0 (by (repeat (first | exact Fr.refl _ _ | assumption | apply Fr.drewN | apply Fr.drew | apply Fr.alloc | refine Fr.setCell ?_ (Or.inr (by simp; try omega)) _))) H5.out.fr))).mono ?_
  rw [HE5.out]
  rintro e w6 ⟨rfl, h9, _⟩
  (try clear x0 x1 x2 x3 x4 x5 x6 x7 xl Hx y0 y1 yl Hy z0 z1 zl Hz)
  have hx_ := (h9.fr.block (W.heap.size) (by first | (simp; done) | (simp; omega)) (by simp)).trans (show _ = some (.cells #[.int .i64 s, .slice a ns.length c, .int .i64 node, .bool nx, .slice ax dx.length cx, .bool ny, .slice ay dy.length cy, .int .i64 st] 58 (0, 0)) by (repeat (first | rw [if_pos (by omega)] | rw [if_neg (by omega)] | rw [hp_drew] | rw [hp_drewN] | rw [hp_alloc_size] | rw [hp_setCell_size] | rw [hp_alloc] | rw [hp_setCell] | rw [Option.map_some] | rw [upd_cells] | rw [List.set_cons_zero] | rw [List.set_cons_succ] | rfl)))
  have x0 := heap_eq_cell hx_ 0
  have x1 := heap_eq_cell hx_ 1
  have x2 := heap_eq_cell hx_ 2
  have x3 := heap_eq_cell hx_ 3
  have x4 := heap_eq_cell hx_ 4
  have x5 := heap_eq_cell hx_ 5
  have x6 := heap_eq_cell hx_ 6
  have x7 := heap_eq_cell hx_ 7
  have xl := lt_of_block hx_
  have Hx := Lib.hid hx_
  clear hx_
  have hy_ := (h9.fr.block (W.heap.size + 1) (by first | (simp; done) | (simp; omega)) (by simp)).trans (show _ = some (.cells #[.bool na, .slice aa da.length ca] 38 (0, 0)) by (repeat (first | rw [if_pos (by omega)] | rw [if_neg (by omega)] | rw [hp_drew] | rw [hp_drewN] | rw [hp_alloc_size] | rw [hp_setCell_size] | rw [hp_alloc] | rw [hp_setCell] | rw [Option.map_some] | rw [upd_cells] | rw [List.set_cons_zero] | rw [List.set_cons_succ] | rfl)))
  have y0 := heap_eq_cell hy_ 0
  have y1 := heap_eq_cell hy_ 1
  have yl := lt_of_block hy_
  have Hy := Lib.hid hy_
  clear hy_
  have hz_ := (h9.fr.block (W.heap.size + 2) (by first | (simp; done) | (simp; omega)) (by simp)).trans (show _ = some (.cells #[.bool nb, .slice ab db.length cb] 38 (0, 0)) by (repeat (first | rw [if_pos (by omega)] | rw [if_neg (by omega)] | rw [hp_drew] | rw [hp_drewN] | rw [hp_alloc_size] | rw [hp_setCell_size] | rw [hp_alloc] | rw [hp_setCell] | rw [Option.map_some] | rw [upd_cells] | rw [List.set_cons_zero] | rw [List.set_cons_succ] | rfl)))
  have z0 := heap_eq_cell hz_ 0
  have z1 := heap_eq_cell hz_ 1
  have zl := lt_of_block hz_
  have Hz := Lib.hid hz_
  clear hz_
  have H6 := Lib.hid h9
  clear h9 H5
  go_wp2_with fail
  refine (Get_q H6.out id (HIN.out.2.2.1.fr (Fr.trans0 (by (repeat (first | exact Fr.refl _ _ | assumption | apply Fr.drewN | apply Fr.drew | apply Fr.alloc | refine Fr.setCell ?_ (Or.inr (by simp; try omega)) _))) H6.out.fr)) (HIN.out.2.2.2.fr (Fr.trans0 (by (repeat (first | exact Fr.refl _ _ | assumption | apply Fr.drewN | apply Fr.drew | apply Fr.alloc | refine Fr.setCell ?_ (Or.inr (by simp; try omega)) _))) H6.out.fr))).mono ?_
  rw [HE6.out]
  rintro e w7 ⟨rfl, h9, _⟩
  (try clear x0 x1 x2 x3 x4 x5 x6 x7 xl Hx y0 y1 yl Hy z0 z1 zl Hz)
  have hx_ := (h9.fr.block (W.heap.size) (by first | (simp; done) | (simp; omega)) (by simp)).trans (show _ = some (.cells #[.int .i64 s, .slice a ns.length c, .int .i64 node, .bool nx, .slice ax dx.length cx, .bool ny, .slice ay dy.length cy, .int .i64 st] 58 (0, 0)) by (repeat (first | rw [if_pos (by omega)] | rw [if_neg (by omega)] | rw [hp_drew] | rw [hp_drewN] | rw [hp_alloc_size] | rw [hp_setCell_size] | rw [hp_alloc] | rw [hp_setCell] | rw [Option.map_some] | rw [upd_cells] | rw [List.set_cons_zero] | rw [List.set_cons_succ] | rfl)))
  have x0 := heap_eq_cell hx_ 0
  have x1 := heap_eq_cell hx_ 1
  have x2 := heap_eq_cell hx_ 2
  have x3 := heap_eq_cell hx_ 3
  have x4 := heap_eq_cell hx_ 4
  have x5 := heap_eq_cell hx_ 5
  have x6 := heap_eq_cell hx_ 6
  have x7 := heap_eq_cell hx_ 7
  have xl := lt_of_block hx_
  have Hx := Lib.hid hx_
  clear hx_
  have hy_ := (h9.fr.block (W.heap.size + 1) (by first | (simp; done) | (simp; omega)) (by simp)).trans (show _ = some (.cells #[.bool na, .slice aa da.length ca] 38 (0, 0)) by (repeat (first | rw [if_pos (by omega)] | rw [if_neg (by omega)] | rw [hp_drew] | rw [hp_drewN] | rw [hp_alloc_size] | rw [hp_setCell_size] | rw [hp_alloc] | rw [hp_setCell] | rw [Option.map_some] | rw [upd_cells] | rw [List.set_cons_zero] | rw [List.set_cons_succ] | rfl)))
  have y0 := heap_eq_cell hy_ 0
  have y1 := heap_eq_cell hy_ 1
  have yl := lt_of_block hy_
  have Hy := Lib.hid hy_
  clear hy_
  have hz_ := (h9.fr.block (W.heap.size + 2) (by first | (simp; done) | (simp; omega)) (by simp)).trans (show _ = some (.cells #[.bool nb, .slice ab db.length cb] 38 (0, 0)) by (repeat (first | rw [if_pos (by omega)] | rw [if_neg (by omega)] | rw [hp_drew] | rw [hp_drewN] | rw [hp_alloc_size] | rw [hp_setCell_size] | rw [hp_alloc] | rw [hp_setCell] | rw [Option.map_some] | rw [upd_cells] | rw [List.set_cons_zero] | rw [List.set_cons_succ] | rfl)))
  have z0 := heap_eq_cell hz_ 0
  have z1 := heap_eq_cell hz_ 1
  have zl := lt_of_block hz_
  have Hz := Lib.hid hz_
  clear hz_
  have H7 := Lib.hid h9
  clear h9 H6
  go_wp2_with fail
  refine (equal_q (HIN.out.2.2.1.fr (Fr.trans0 (by (repeat (first | exact Fr.refl _ _ | assumption | apply Fr.drewN | apply Fr.drew | apply Fr.alloc | refine Fr.setCell ?_ (Or.inr (by simp; try omega)) _))) H7.out.fr)) (HIN.out.1.fr (Fr.trans0 (by (repeat (first | exact Fr.refl _ _ | assumption | apply Fr.drewN | apply Fr.drew | apply Fr.alloc | refine Fr.setCell ?_ (Or.inr (by simp; try omega)) _))) H7.out.fr)) HSZ.out.1).mono ?_
  rw [HQ1.out]
  rintro e w8 ⟨rfl, hf⟩
  have h9 := H7.out.step hf
  (try clear x0 x1 x2 x3 x4 x5 x6 x7 xl Hx y0 y1 yl Hy z0 z1 zl Hz)
  have hx_ := (h9.fr.block (W.heap.size) (by first | (simp; done) | (simp; omega)) (by simp)).trans (show _ = some (.cells #[.int .i64 s, .slice a ns.length c, .int .i64 node, .bool nx, .slice ax dx.length cx, .bool ny, .slice ay dy.length cy, .int .i64 st] 58 (0, 0)) by (repeat (first | rw [if_pos (by omega)] | rw [if_neg (by omega)] | rw [hp_drew] | rw [hp_drewN] | rw [hp_alloc_size] | rw [hp_setCell_size] | rw [hp_alloc] | rw [hp_setCell] | rw [Option.map_some] | rw [upd_cells] | rw [List.set_cons_zero] | rw [List.set_cons_succ] | rfl)))
  have x0 := heap_eq_cell hx_ 0
  have x1 := heap_eq_cell hx_ 1
  have x2 := heap_eq_cell hx_ 2
  have x3 := heap_eq_cell hx_ 3
  have x4 := heap_eq_cell hx_ 4
  have x5 := heap_eq_cell hx_ 5
  have x6 := heap_eq_cell hx_ 6
  have x7 := heap_eq_cell hx_ 7
  have xl := lt_of_block hx_
  have Hx := Lib.hid hx_
  clear hx_
  have hy_ := (h9.fr.block (W.heap.size + 1) (by first | (simp; done) | (simp; omega)) (by simp)).trans (show _ = some (.cells #[.bool na, .slice aa da.length ca] 38 (0, 0)) by (repeat (first | rw [if_pos (by omega)] | rw [if_neg (by omega)] | rw [hp_drew] | rw [hp_drewN] | rw [hp_alloc_size] | rw [hp_setCell_size] | rw [hp_alloc] | rw [hp_setCell] | rw [Option.map_some] | rw [upd_cells] | rw [List.set_cons_zero] | rw [List.set_cons_succ] | rfl)))
  have y0 := heap_eq_cell hy_ 0
  have y1 := heap_eq_cell hy_ 1
  have yl := lt_of_block hy_
  have Hy := Lib.hid hy_
  clear hy_
  have hz_ := (h9.fr.block (W.heap.size + 2) (by first | (simp; done) | (simp; omega)) (by simp)).trans (show _ = some (.cells #[.bool nb, .slice ab db.length cb] 38 (0, 0)) by (repeat (first | rw [if_pos (by omega)] | rw [if_neg (by omega)] | rw [hp_drew] | rw [hp_drewN] | rw [hp_alloc_size] | rw [hp_setCell_size] | rw [hp_alloc] | rw [hp_setCell] | rw [Option.map_some] | rw [upd_cells] | rw [List.set_cons_zero] | rw [List.set_cons_succ] | rfl)))
  have z0 := heap_eq_cell hz_ 0
  have z1 := heap_eq_cell hz_ 1
  have zl := lt_of_block hz_
  have Hz := Lib.hid hz_
  clear hz_
  have H8 := Lib.hid h9
  clear h9 H7 hf
  go_wp2_with fail
  refine (equal_q (HIN.out.2.2.2.fr (Fr.trans0 (by (repeat (first | exact Fr.refl _ _ | assumption | apply Fr.drewN | apply Fr.drew | apply Fr.alloc | refine Fr.setCell ?_ (Or.inr (by simp; try omega)) _))) H8.out.fr)) (HIN.out.2.1.fr (Fr.trans0 (by (repeat (first | exact Fr.refl _ _ | assumption | apply Fr.drewN | apply Fr.drew | apply Fr.alloc | refine Fr.setCell ?_ (Or.inr (by simp; try omega)) _))) H8.out.fr)) HSZ.out.2).mono ?_
  rw [HQ2.out]
  rintro e w10 ⟨rfl, hf⟩
  have h9 := H8.out.step hf
  (try clear x0 x1 x2 x3 x4 x5 x6 x7 xl Hx y0 y1 yl Hy z0 z1 zl Hz)
  have hx_ := (h9.fr.block (W.heap.size) (by first | (simp; done) | (simp; omega)) (by simp)).trans (show _ = some (.cells #[.int .i64 s, .slice a ns.length c, .int .i64 node, .bool nx, .slice ax dx.length cx, .bool ny, .slice ay dy.length cy, .int .i64 st] 58 (0, 0)) by (repeat (first | rw [if_pos (by omega)] | rw [if_neg (by omega)] | rw [hp_drew] | rw [hp_drewN] | rw [hp_alloc_size] | rw [hp_setCell_size] | rw [hp_alloc] | rw [hp_setCell] | rw [Option.map_some] | rw [upd_cells] | rw [List.set_cons_zero] | rw [List.set_cons_succ] | rfl)))
  have x0 := heap_eq_cell hx_ 0
  have x1 := heap_eq_cell hx_ 1
  have x2 := heap_eq_cell hx_ 2
  have x3 := heap_eq_cell hx_ 3
  have x4 := heap_eq_cell hx_ 4
  have x5 := heap_eq_cell hx_ 5
  have x6 := heap_eq_cell hx_ 6
  have x7 := heap_eq_cell hx_ 7
  have xl := lt_of_block hx_
  have Hx := Lib.hid hx_
  clear hx_
  have hy_ := (h9.fr.block (W.heap.size + 1) (by first | (simp; done) | (simp; omega)) (by simp)).trans (show _ = some (.cells #[.bool na, .slice aa da.length ca] 38 (0, 0)) by (repeat (first | rw [if_pos (by omega)] | rw [if_neg (by omega)] | rw [hp_drew] | rw [hp_drewN] | rw [hp_alloc_size] | rw [hp_setCell_size] | rw [hp_alloc] | rw [hp_setCell] | rw [Option.map_some] | rw [upd_cells] | rw [List.set_cons_zero] | rw [List.set_cons_succ] | rfl)))
  have y0 := heap_eq_cell hy_ 0
  have y1 := heap_eq_cell hy_ 1
  have yl := lt_of_block hy_
  have Hy := Lib.hid hy_
  clear hy_
  have hz_ := (h9.fr.block (W.heap.size + 2) (by first | (simp; done) | (simp; omega)) (by simp)).trans (show _ = some (.cells #[.bool nb, .slice ab db.length cb] 38 (0, 0)) by (repeat (first | rw [if_pos (by omega)] | rw [if_neg (by omega)] | rw [hp_drew] | rw [hp_drewN] | rw [hp_alloc_size] | rw [hp_setCell_size] | rw [hp_alloc] | rw [hp_setCell] | rw [Option.map_some] | rw [upd_cells] | rw [List.set_cons_zero] | rw [List.set_cons_succ] | rfl)))
  have z0 := heap_eq_cell hz_ 0
  have z1 := heap_eq_cell hz_ 1
  have zl := lt_of_block hz_
  have Hz := Lib.hid hz_
  clear hz_
  have H9 := Lib.hid h9
  clear h9 H8 hf
  go_wp2_with fail
  refine (awake_q _).mono ?_
  rintro e w9 ⟨rfl, hf9⟩
  have Hf9 := Lib.hid (Fr.trans0 (by (repeat (first | exact Fr.refl _ _ | assumption | apply Fr.drewN | apply Fr.drew | apply Fr.alloc | refine Fr.setCell ?_ (Or.inr (by simp; try omega)) _)) : Fr [] W _) (H9.out.fr.trans0 (Fr.trans0 (by (repeat (first | exact Fr.refl _ _ | assumption | apply Fr.drewN | apply Fr.drew | apply Fr.alloc | refine Fr.setCell ?_ (Or.inr (by simp; try omega)) _))) hf9)))
  clear hf9
  go_wp2
  go_ret
  exact ⟨rfl, Hf9.out⟩
end Go.Proofs.Ytdanghnadbkhfaa
end
