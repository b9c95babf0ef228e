/- Own texts of this claim, part 33: no condition. -/
import Derived.Test.YtppmnmheodimoaaZM23
section
/- The reference's rows after a generation. -/
namespace Go.Proofs.Ytppmnmheodimoaa
open Go Go.RowKit Go.Proofs.Rg Go.Proofs.Mp Go.Proofs.Hp Go.Proofs.Qs Go.Proofs.Ev
set_option linter.unusedVariables false
set_option linter.unusedSimpArgs false
theorem fr_own {w wr w9 : World} {base e size n : Nat} {v : Value} {xs : List Value} (hf : Fr [] w wr) (ho : wr.ownsRow base e size v n xs) (hb : w.heap.size ≤ base) (h : Fr v.ownBlock.toList wr w9) : Fr [] w w9 :=
  hf.trans h fun x hx => .inr (by have := owns_ge ho (show v.ownBlock = some x by simpa using hx); omega)
theorem fr_own' {w wr w1 w9 : World} {base e size n : Nat} {v : Value} {xs : List Value} (hf : Fr [] w w1) (ho : wr.ownsRow base e size v n xs) (hb : w.heap.size ≤ base) (h : Fr v.ownBlock.toList w1 w9) : Fr [] w w9 :=
  hf.trans h fun x hx => .inr (by have := owns_ge ho (show v.ownBlock = some x by simpa using hx); omega)
set_option maxHeartbeats 8000000 in
set_option maxRecDepth 100000 in
theorem RInner_calls {w : World} {r : Rule} {ha na : Option Addr} {hc nc : Nat} {a : Option Addr} {c q R m : Nat} {F : Fld} {ox oy : Int} (hR : rightR r = true) (hru : RuleAt w (.slice ha r.hood.length hc) (.slice na r.nodes.length nc) r)
    (hl : RowsAt w (.slice a m c) (gridL m F ox oy)) (hrad : radius r.hood = R) (hm : m = q + 2 * R) (hm2 : m ≤ 1000) (hq : 1 ≤ q) (hF : ∀ i j : Int, 0 ≤ i → i < m → 0 ≤ j → j < m → 0 ≤ F (ox + i) (oy + j) ∧ F (ox + i) (oy + j) < r.S) :
    Calls Try.prog 47 #[.agg #[.int .i64 r.S, .slice ha r.hood.length hc, .slice na r.nodes.length nc], .slice a m c, .int .i64 R] w fun e w' => ∃ v, e = .returned v ∧ Gath w' w.heap.size (ge w.heap.size) v (gridL q (gen r F) (ox + R) (oy + R)) ∧ Fr [] w w' := by
  have HRU := Lib.hid hru
  have HL := Lib.hid hl
  have HF := Lib.hid hF
  have HRAD := Lib.hid hrad
  have hr2 := radius_le r.hood
  have hR2 : R ≤ 2 := by omega
  have hh := right_hlen hR
  have hnl := right_len hR
  have HM := Lib.hid hm
  have hmq : ((m : Int) - R) = ((q + R : Nat) : Int) := by omega
  clear hru hl hF hrad hr2 hm
  go_enter Try.func47, Try.ntmps47
  go_wp2
  obtain ⟨w1, hw1⟩ : ∃ w1, w.alloc (Obj.cells #[Value.int .i64 r.S, .slice ha r.hood.length hc, .slice na r.nodes.length nc] 31 (0, 0)) = w1 := ⟨_, rfl⟩
  have hb1 : w1.heap[w.heap.size]? = some (.cells #[Value.int .i64 r.S, .slice ha r.hood.length hc, .slice na r.nodes.length nc] 31 (0, 0)) := by rw [← hw1]; (repeat (first | rw [if_pos (by omega)] | rw [if_neg (by omega)] | rw [hp_drew] | rw [hp_drewN] | rw [hp_alloc_size] | rw [hp_setCell_size] | rw [hp_alloc] | rw [hp_setCell] | rw [Option.map_some] | rw [upd_cells] | rw [List.set_cons_zero] | rw [List.set_cons_succ] | rfl))
  have Hf := Lib.hid (show Fr [] w w1 by rw [← hw1]; (repeat (first | exact Fr.refl _ _ | assumption | apply Fr.drewN | apply Fr.drew | apply Fr.alloc | refine Fr.setCell ?_ (Or.inr (by simp; try omega)) _)))
  rw [hw1]
  have Ht := Lib.hid hb1
  obtain ⟨tb, htb⟩ : ∃ t, w.heap.size = t := ⟨_, rfl⟩
  have HTB := Lib.hid htb
  rw [htb] at Ht ⊢
  clear hw1 hb1 htb
  go_loopw [7, 8] (fun x7 x8 wr => ∃ i : Nat, x8 = .int .i64 ((R : Int) + i) ∧ i ≤ q ∧ Hid (Gath wr w1.heap.size (ge w1.heap.size) x7 (rowsL i q (gen r F) (ox + R) (oy + R))) ∧ Hid (Fr [] w1 wr)) (fun _ z _ => R + q - (intOf z).toNat)
  case atStart => exact ⟨0, rfl, by omega, Lib.hid (Gath.nil _ _ _), Lib.hid (Fr.refl _ _)⟩
  case round =>
    obtain ⟨i, rfl, hi, HG, Hf1⟩ := hrel
    obtain ⟨wy, hwy⟩ : ∃ wy, wy = wr := ⟨_, rfl⟩
    by_cases hlt : i < q
    · have hd8 : decide ((R : Int) + i < (q : Int) + R) = true := by simp; omega
      go_wp2
      rw [← hwy] at HG Hf1 ⊢
      clear hwy
      go_loopw [9, 10] (fun x9 x10 wr => ∃ j : Nat, x10 = .int .i64 ((R : Int) + j) ∧ j ≤ q ∧ Hid (wr.ownsRow wy.heap.size 3 1 x9 j (iv (rowL j (gen r F) (ox + R) (oy + R + i)))) ∧ Hid (Fr [] wy wr)) (fun _ z _ => R + q - (intOf z).toNat)
      case atStart => exact ⟨0, rfl, by omega, Lib.hid (World.ownsRow_nil _ _ _ _), Lib.hid (Fr.refl _ _)⟩
      case round =>
        obtain ⟨j, rfl, hj, HO, Hf2⟩ := hrel
        obtain ⟨wx, hwx⟩ : ∃ wx, wx = wr := ⟨_, rfl⟩
        by_cases hltj : j < q
        · have hd10 : decide ((R : Int) + j < (q : Int) + R) = true := by simp; omega
          go_wp2
          rw [← hwx] at HO Hf2 ⊢
          clear hwx
          go_loopw [11, 12] (fun x11 x12 wr => ∃ h : Nat, x12 = .int .i64 h ∧ h ≤ r.hood.length ∧ Hid (wr.ownsRow wx.heap.size 3 1 x11 h (iv ((r.hood.map fun p => F (ox + R + j + p.1) (oy + R + i + p.2)).take h))) ∧ Hid (Fr [] wx wr)) (fun _ z _ => r.hood.length - (intOf z).toNat)
          case atStart => exact ⟨0, rfl, by omega, Lib.hid (World.ownsRow_nil _ _ _ _), Lib.hid (Fr.refl _ _)⟩
          case round =>
            obtain ⟨h, rfl, hh1, HI, Hf3⟩ := hrel
            have hfk := (Hf1.out.trans0 Hf2.out).trans0 Hf3.out
            (try clear t0)
            (try clear t1)
            (try clear t2)
            (try clear tl)
            have ht_ := (hfk.block _ (lt_of_block Ht.out) (by simp)).trans Ht.out
            clear Ht
            have t0 := heap_eq_cell ht_ 0
            have t1 := heap_eq_cell ht_ 1
            have t2 := heap_eq_cell ht_ 2
            have tl := lt_of_block ht_
            have Ht := Lib.hid ht_
            clear ht_
            clear hfk
            by_cases hlth : h < r.hood.length
            · obtain ⟨⟨px, py⟩, hp⟩ : ∃ p, r.hood[h]? = some p := ⟨_, List.getElem?_eq_getElem hlth⟩
              obtain ⟨o1, o2, o3, o4⟩ := hood_in (right_hood hR) (List.mem_of_getElem? hp)
              rw [HRAD.out] at o1 o2 o3 o4
              simp only at o1 o2 o3 o4
              have hm := HM.out
              have Hfa := Lib.hid (((Hf.out.trans0 Hf1.out).trans0 Hf2.out).trans0 Hf3.out)
              obtain ⟨gh, oh, rfl, hgh, p0, p1⟩ := (HRU.out.1.fr Hfa.out).cell hp
              simp only at p0 p1
              have b1 : (0 : Int) ≤ ((R : Int) + i) + py := by omega
              have b2 : ((R : Int) + i) + py < m := by omega
              have b3 : (0 : Int) ≤ ((R : Int) + j) + px := by omega
              have b4 : ((R : Int) + j) + px < m := by omega
              have hgy : (gridL m F ox oy)[(((R : Int) + i) + py).toNat]? = some (rowL m F ox (oy + R + i + py)) := by
                rw [gridL_get (by omega)]; congr 2; omega
              have hgx : (rowL m F ox (oy + R + i + py))[(((R : Int) + j) + px).toNat]? = some (F (ox + R + j + px) (oy + R + i + py)) := by
                rw [rowL_get (by omega)]; congr 2; omega
              obtain ⟨gy, oy2, g2, of2, rcy, rfl, ly, cy, hint, _⟩ := row_one (HL.out.fr Hfa.out) hgy (by rw [rowL_length]; omega)
              rw [rowL_length] at cy hint
              obtain ⟨g2', of2', he2, lx, cx⟩ := hint.cell hgx
              cases he2
              have HTK := Lib.hid (by have h := take_map_succ hp (fun p => F (ox + R + j + p.1) (oy + R + i + p.2)); rwa [List.map_take, List.map_take] at h)
              have hsz3 := Hf3.out.size
              obtain ⟨S, hS⟩ : ∃ S, F (ox + R + j + px) (oy + R + i + py) = S := ⟨_, rfl⟩
              rw [hS] at cx
              have HS := Lib.hid hS
              clear o1 o2 o3 o4 hm hgy hgx hint hp hS
              go_wp2
              (refine wp_region_text (by kernel_rfl) (by kernel_rfl) ?_)
              go_wp2_with (at_builtin; refine append_int (base := wx.heap.size) (n := h) (l := (r.hood.map fun p => F (ox + R + j + p.1) (oy + R + i + p.2)).take h) (y := S) rfl rfl rfl rfl ?a1 ?a2 ?a3 ?a4 ?_)
              case a1 => exact owns_of_block HI.out fun y hy => (by first | exact heap_alloc_else _ _ _ (owns_lt HI.out hy) | (simp only [hp_drew, hp_drewN]; exact heap_alloc_else _ _ _ (owns_lt HI.out hy)))
              case a2 => first | (first | (rw [hp_alloc, if_pos rfl]; done) | exact (Array.getElem?_eq_some_iff.1 ((hp_alloc _ _ _).trans (if_pos rfl))).2 | (simp only [hp_drew, hp_drewN]; rw [hp_alloc, if_pos rfl]; done)) | (repeat (first | rw [if_pos (by omega)] | rw [if_neg (by omega)] | rw [hp_drew] | rw [hp_drewN] | rw [hp_alloc_size] | rw [hp_setCell_size] | rw [hp_alloc] | rw [hp_setCell] | rw [Option.map_some] | rw [upd_cells] | rw [List.set_cons_zero] | rw [List.set_cons_succ] | rfl))
              case a3 => omega
              case a4 => (first | omega | (simp only [hp_drew, hp_drewN, hp_alloc_size]; omega) | (simp; omega))
              intro v9 w9 hown hF9 hb9
              have hf9 : Fr [] wx w9 := fr_own' (by have := Hf3.out; (repeat (first | exact Fr.refl _ _ | assumption | apply Fr.drewN | apply Fr.drew | apply Fr.alloc | refine Fr.setCell ?_ (Or.inr (by simp; try omega)) _))) HI.out (Nat.le_refl _) hF9
              have HO9 := Lib.hid (show w9.ownsRow wx.heap.size 3 1 v9 (h + 1) (iv ((r.hood.map fun p => F (ox + R + j + p.1) (oy + R + i + p.2)).take (h + 1))) by rw [HTK.out, HS.out]; exact hown)
              have HF9 := Lib.hid hf9
              clear hown hF9 hb9 hf9 HI
              go_wp2
              refine Strict.intro rfl ?_
              go_wp2
              go_roundw
              case rel => exact ⟨h + 1, by go_num, by omega, HO9, Lib.hid (HF9.out.trans0 (by (repeat (first | exact Fr.refl _ _ | assumption | apply Fr.drewN | apply Fr.drew | apply Fr.alloc | refine Fr.setCell ?_ (Or.inr (by simp; try omega)) _))))⟩
              case measure => simp [intOf]; omega
            · have hhe : h = r.hood.length := by omega
              subst hhe
              rw [show r.hood.length = (r.hood.map fun p => F (ox + R + j + p.1) (oy + R + i + p.2)).length by rw [List.length_map], List.take_length, List.length_map] at HI
              have Hfa := Lib.hid (((Hf.out.trans0 Hf1.out).trans0 Hf2.out).trans0 Hf3.out)
              obtain ⟨ss, hss⟩ : ∃ ss, r.hood.map (fun p => F (ox + R + j + p.1) (oy + R + i + p.2)) = ss := ⟨_, rfl⟩
              have hsl : ss.length = r.hood.length := by rw [← hss, List.length_map]
              have hsk : ∀ s ∈ ss, 0 ≤ s ∧ s < r.S := by
                intro s hs
                rw [← hss] at hs
                obtain ⟨p, hp, rfl⟩ := List.mem_map.1 hs
                obtain ⟨o1, o2, o3, o4⟩ := hood_in (right_hood hR) hp
                rw [HRAD.out] at o1 o2 o3 o4
                have hm := HM.out
                have := HF.out (R + j + p.1) (R + i + p.2) (by omega) (by omega) (by omega) (by omega)
                rwa [show ox + ((R : Int) + j + p.1) = ox + R + j + p.1 by omega, show oy + ((R : Int) + i + p.2) = oy + R + i + p.2 by omega] at this
              have HD := Lib.hid (show down r ss = gen r F (ox + R + j) (oy + R + i) by rw [← hss]; rfl)
              rw [hss] at HI
              obtain ⟨ra, rc, hu, _, _⟩ := owns_form HI.out
              have hI := HI.out
              rw [hu] at hI
              have HV := Lib.hid (fun w9 (hf : Fr [] wr w9) => RValue_calls (w := w9) (ha := ha) (hc := hc) (b := ra) (c := rc) (ss := ss) hR ((HRU.out.2.fr Hfa.out).fr hf) ((ints_of_owns (base := wx.heap.size) (v := .slice ra ss.length rc) (hsl ▸ hI)).fr hf) hsl hsk)
              rw [hsl] at HV
              subst hu
              have hsz := Hf2.out.size
              have hsz3 := Hf3.out.size
              have HO := Lib.hid (owns_of_block HO.out fun y hy => Hf3.out.block y (owns_lt HO.out hy) (by simp))
              have Hf2 := Lib.hid (Hf2.out.trans0 Hf3.out)
              clear hss hI HI hsk hsl
              go_wp2_with fail
              refine (HV.out _ (by (repeat (first | exact Fr.refl _ _ | assumption | apply Fr.drewN | apply Fr.drew | apply Fr.alloc | refine Fr.setCell ?_ (Or.inr (by simp; try omega)) _)))).mono ?_
              rintro e w5 ⟨rfl, hf5⟩
              have hf5w : Fr [] wr w5 := Fr.trans0 (by (repeat (first | exact Fr.refl _ _ | assumption | apply Fr.drewN | apply Fr.drew | apply Fr.alloc | refine Fr.setCell ?_ (Or.inr (by simp; try omega)) _))) hf5
              have HO := Lib.hid (owns_of_block HO.out fun y hy => hf5w.block y (owns_lt HO.out hy) (by simp))
              have Hf2 := Lib.hid (Hf2.out.trans0 hf5w)
              have hsz5 := hf5w.size
              rw [HD.out]
              clear hf5 hf5w HV
              go_wp2_with (at_builtin; refine append_int (base := wy.heap.size) (n := j) (l := rowL j (gen r F) (ox + R) (oy + R + i)) (y := gen r F (ox + R + j) (oy + R + i)) rfl rfl rfl rfl ?b1 ?b2 ?b3 ?b4 ?_)
              case b1 => exact owns_of_block HO.out fun y hy => (by first | exact heap_alloc_else _ _ _ (owns_lt HO.out hy) | (simp only [hp_drew, hp_drewN]; exact heap_alloc_else _ _ _ (owns_lt HO.out hy)))
              case b2 => first | (first | (rw [hp_alloc, if_pos rfl]; done) | exact (Array.getElem?_eq_some_iff.1 ((hp_alloc _ _ _).trans (if_pos rfl))).2 | (simp only [hp_drew, hp_drewN]; rw [hp_alloc, if_pos rfl]; done)) | (repeat (first | rw [if_pos (by omega)] | rw [if_neg (by omega)] | rw [hp_drew] | rw [hp_drewN] | rw [hp_alloc_size] | rw [hp_setCell_size] | rw [hp_alloc] | rw [hp_setCell] | rw [Option.map_some] | rw [upd_cells] | rw [List.set_cons_zero] | rw [List.set_cons_succ] | rfl))
              case b3 => omega
              case b4 => (first | omega | (simp only [hp_drew, hp_drewN, hp_alloc_size]; omega) | (simp; omega))
              intro v9 w9 hown hF9 hb9
              have hf9 : Fr [] wy w9 := fr_own' (by have := Hf2.out; (repeat (first | exact Fr.refl _ _ | assumption | apply Fr.drewN | apply Fr.drew | apply Fr.alloc | refine Fr.setCell ?_ (Or.inr (by simp; try omega)) _))) HO.out (Nat.le_refl _) hF9
              rw [rowL_snoc] at hown
              have HO9 := Lib.hid hown
              have HF9 := Lib.hid hf9
              clear hown hF9 hb9 hf9 HO
              go_wp2
              go_roundw
              case rel => exact ⟨j + 1, by go_num, by omega, HO9, HF9⟩
              case measure => simp [intOf]; omega
        · obtain rfl : q = j := by omega
          have hd10 : decide ((R : Int) + q < (q : Int) + R) = false := by simp; omega
          obtain ⟨ra, rc, hu, _, _⟩ := owns_form HO.out
          have hO := HO.out
          rw [hu] at hO
          have hB : ∀ g, (Value.slice ra q rc).ownBlock = some g → g < wr.heap.size ∧ w1.heap.size ≤ g ∧ u7.ownBlock ≠ some g := fun g hg => by
            have h1 := owns_ge hO hg
            have h2 := owns_lt hO hg
            have h3 := Hf1.out.size
            exact ⟨h2, by omega, fun e => by have := HG.out.blk e; omega⟩
          subst hu
          have HB := Lib.hid hB
          have HG := Lib.hid (HG.out.fr Hf2.out)
          have HGO := HG
          have Hf1 := Lib.hid (Hf1.out.trans0 Hf2.out)
          have HO := Lib.hid hO
          clear hO hB
          go_wp2_with (at_builtin; refine append_row (base := w1.heap.size) (P := ge w1.heap.size) (u := .slice ra q rc) (L := rowsL i q (gen r F) (ox + R) (oy + R)) (r := rowL q (gen r F) (ox + R) (oy + R + i)) rfl rfl rfl rfl ?g1 ?g2 ?g3 ?g4 ?g5 ?g6 ?g7 ?_)
          case g1 => exact HG.out.fr (by (repeat (first | exact Fr.refl _ _ | assumption | apply Fr.drewN | apply Fr.drew | apply Fr.alloc | refine Fr.setCell ?_ (Or.inr (by simp; try omega)) _)))
          case g2 => (repeat (first | rw [if_pos (by omega)] | rw [if_neg (by omega)] | rw [hp_drew] | rw [hp_drewN] | rw [hp_alloc_size] | rw [hp_setCell_size] | rw [hp_alloc] | rw [hp_setCell] | rw [Option.map_some] | rw [upd_cells] | rw [List.set_cons_zero] | rw [List.set_cons_succ] | rfl))
          case g3 =>
            refine IntsAt.fr (w := wr) (ints_of_owns (base := wy.heap.size) ?_) (by (repeat (first | exact Fr.refl _ _ | assumption | apply Fr.drewN | apply Fr.drew | apply Fr.alloc | refine Fr.setCell ?_ (Or.inr (by simp; try omega)) _)))
            rw [rowL_length]; exact HO.out
          case g4 => exact owns_fits HO.out
          case g5 => intro g hg; have := HB.out g hg; exact ⟨by rw [hp_alloc_size]; omega, this.2⟩
          case g6 => rw [rowsL_length]; omega
          case g7 => have h3 := Hf1.out.size; rw [hp_alloc_size]; omega
          intro v8 w8 hg8 hF8 hloc8
          have HF8 := Lib.hid (show Fr [] w1 w8 from Fr.trans (Fr.trans0 Hf1.out (by (repeat (first | exact Fr.refl _ _ | assumption | apply Fr.drewN | apply Fr.drew | apply Fr.alloc | refine Fr.setCell ?_ (Or.inr (by simp; try omega)) _)))) hF8 fun z hz => .inr (by
            obtain ⟨vs, ho, _⟩ := HG.out
            exact owns_ge ho (by simpa using hz)))
          have HG8 := Lib.hid (show Gath w8 w1.heap.size (ge w1.heap.size) v8 (rowsL (i + 1) q (gen r F) (ox + R) (oy + R)) by rw [← rowsL_snoc]; exact hg8)
          clear hg8 hF8 hloc8
          go_wp2
          go_roundw
          case rel => exact ⟨i + 1, by go_num, by omega, HG8, HF8⟩
          case measure => simp [intOf]; omega
    · obtain rfl : q = i := by omega
      have hd8 : decide ((R : Int) + q < (q : Int) + R) = false := by simp; omega
      have hs := Hf.out.size
      have hG := HG.out.low (base' := w.heap.size) (P' := ge w.heap.size) hs (fun g hg => Nat.le_trans hs hg)
      obtain ⟨ao, co, hao⟩ := hG.form
      rw [hao] at hG
      subst hao
      have HG := Lib.hid hG
      clear hG
      go_wp2
      go_ret
      exact ⟨_, rfl, HG.out, Hf.out.trans0 Hf1.out⟩
end Go.Proofs.Ytppmnmheodimoaa
end
