/- Own texts of this claim, part 17: no condition. -/
import Derived.Test.YtjidldfnlejdhaaZM15
set_option linter.unusedVariables false
set_option linter.unusedSimpArgs false
section
/- solve: a new engine. -/
namespace Go.Proofs.Ytjidldfnlejdhaa
open Go Go.RowKit Go.Proofs.Rg Go.Proofs.Mp Go.Proofs.Hp Go.Proofs.Sv
set_option linter.unusedVariables false
set_option linter.unusedSimpArgs false
theorem Compact_e {w : World} {a : Option Addr} {c : Nat} : Calls Try.prog 52 #[.slice a 0 c] w fun e w' => e = .returned (.slice a 0 c) ∧ w' = w := by
  go_enter Try.func52, Try.ntmps52
  go_wp2
  go_ret
  exact ⟨rfl, rfl⟩
theorem Sort_e {w : World} {a : Option Addr} {c : Nat} : Calls Try.prog 51 #[.slice a 0 c] w fun e w' => e = .returned (.tuple #[]) ∧ w' = w := by
  have hcon := AnyM.slices_Sort_int_none Try.shSort a c w
  exact hcon
theorem vals_nil (V : Nat) : vals V [] = List.replicate (V + 1) (Value.int .i8 0) := by
  unfold vals
  apply List.ext_getElem?
  intro i
  rw [List.getElem?_map, List.getElem?_replicate]
  by_cases h : i < V + 1
  · rw [List.getElem?_range h, if_pos h]; simp [vof]
  · rw [List.getElem?_eq_none (by simp; omega), if_neg h]; rfl
theorem has_mapT {κ ν : Type} {f : κ → Value} {g : ν → Value} {W w : World} {Ps : List Res} (h : Has W w Ps) : Has W (w.alloc (.map #[] 0)) (mapT w.heap.size f g [] :: Ps) :=
  h.new (F := [w.heap.size]) ((Fr.refl [] w).alloc _) ⟨MapIs.made w, rfl⟩ (by simp)
/-- a formula that can be read wherever some things are -/
def FormSrc (W : World) (Ps : List Res) (a : Option Addr) (c : Nat) (cs : List (List Int)) : Prop := ∀ w Qs, Has W w Qs → (∀ P ∈ Ps, P ∈ Qs) → FormAt w a c cs
theorem FormSrc.base {W : World} {Ps : List Res} {a : Option Addr} {c : Nat} {cs : List (List Int)} (h : FormAt W a c cs) : FormSrc W Ps a c cs := fun w Qs hw _ => h.fr hw.fr
theorem rightF_len {V : Nat} {cs : List (List Int)} (h : rightF V cs = true) : cs.length ≤ 262144 ∧ V ≤ 65536 ∧ ∀ c ∈ cs, ∀ x ∈ c, x ≠ 0 ∧ x.natAbs ≤ V := by
  unfold rightF at h
  simp only [Bool.and_eq_true, Bool.not_eq_true', Bool.or_eq_false_iff, decide_eq_false_iff_not, List.all_eq_true] at h
  refine ⟨by omega, by omega, fun c hc x hx => ?_⟩
  have := h.2 c hc x hx
  unfold okLit at this
  simp only [Bool.not_eq_true', Bool.or_eq_false_iff, beq_eq_false_iff_ne, decide_eq_false_iff_not] at this
  omega
/-- the lists behind the first literals of a clause -/
def wj (f : Int → List Nat) (k : Nat) (l : List Int) : Int → List Nat := l.foldl (fun f y => Sv.upd f y (f y ++ [k])) f
theorem wj_snoc (f : Int → List Nat) (k : Nat) (l : List Int) (y : Int) : wj f k (l ++ [y]) = Sv.upd (wj f k l) y (wj f k l y ++ [k]) := by unfold wj; rw [List.foldl_append]; rfl
theorem wj_len {f : Int → List Nat} {m : Nat} (h : ∀ y, (f y).length ≤ m) (k : Nat) : ∀ (l : List Int) (y : Int), (wj f k l y).length ≤ m + l.length := by
  intro l
  induction l generalizing f m with
  | nil => intro y; simpa [wj] using h y
  | cons x l ih =>
    intro y
    have := ih (f := Sv.upd f x (f x ++ [k])) (m := m + 1) (fun z => by
      unfold Sv.upd
      have h1 := h x
      have h2 := h z
      split
      · simp; omega
      · omega) y
    simp only [List.length_cons]
    have e : wj f k (x :: l) y = wj (Sv.upd f x (f x ++ [k])) k l y := rfl
    rw [e]; omega
/-- the things while a clause is laid in its lists -/
def newL (eb V g1 vc : Nat) (l : List Int) (CV : List (Value × List Int)) (hs : List Value) (L : List (Int × (Value × List Nat))) (mb : Nat) (cv vv tv dv : Value) (tr : List Int) (bad : Bool) : List Res :=
  [Hp.row 3 1 (.slice (some ⟨g1, 0, none⟩) l.length vc) l.length (iv l), blk eb (.cells #[cv, .map (some mb), vv, tv, .int .i64 0, dv, .bool bad] 80 (0, 0)),
   Hp.row 51 1 cv hs.length hs, bun (CV.map rowC), mapT mb (fun n : Int => Value.int .i64 n) (fun q : Value × List Nat => q.1) L, bun (L.map (rowI 3)),
   Hp.row 83 1 vv (V + 1) (vals V tr), Hp.row 3 1 tv tr.length (iv tr), Hp.row 88 3 dv 0 []]
def NewPost (W : World) (Ps : List Res) (V : Nat) (cs : List (List Int)) (e : Ending) (w' : World) : Prop :=
  ∃ p CV L tr bad, e = .returned (.pointer (some ⟨p, 0, none⟩)) ∧ Has W w' (engR p V CV L tr 0 [] bad :: Ps) ∧ NI V cs (CV.map (·.2)) (wl L) tr bad
def NewInv (W : World) (Ps : List Res) (V : Nat) (cs : List (List Int)) (p : Nat) (wr : World) (i : Nat) : Prop :=
  ∃ CV L tr bad, Has W wr (engR p V CV L tr 0 [] bad :: Ps) ∧ NI V (cs.take i) (CV.map (·.2)) (wl L) tr bad
set_option maxHeartbeats 8000000 in
set_option maxRecDepth 100000 in
theorem newEngine_calls {W w : World} {Ps : List Res} (h : Has W w Ps) {V : Nat} {a : Option Addr} {c : Nat} {cs : List (List Int)} (hF : FormSrc W Ps a c cs) (hr : rightF V cs = true) (hs : ∀ r ∈ cs, r.length ≤ 1000000) :
    Calls Try.prog 28 #[.agg #[.int .i64 (V : Int), .slice a cs.length c]] w (NewPost W Ps V cs) := by
  obtain ⟨hcl, hV, hlit⟩ := rightF_len hr
  have hmm := @run_makeMap Try.prog
  have H := Lib.hid h
  have HF := Lib.hid hF
  have HS := Lib.hid hs
  have HL := Lib.hid hlit
  obtain ⟨n, hn⟩ : ∃ n, cs.length = n := ⟨_, rfl⟩
  rw [hn] at hcl ⊢
  have HN := Lib.hid hn
  have hw1 : (V : Int) + 1 = ((V + 1 : Nat) : Int) := by omega
  have hml : (65537 : Nat) ≤ maxLen := by decide
  have HB := Lib.hid (show 1 * (V + 1) ≤ 281474976710656 ∧ V + 1 ≤ maxLen by omega)
  have HW1 := Lib.hid hw1
  clear h hF hs hlit hr hn hml hw1
  go_enter Try.func28, Try.ntmps28
  go_wp2_with (refine wpList_make1 (n := V + 1) (z := .int .i8 0) (bytes := 1) (e := 83) rfl rfl (congrArg (Value.int .i64) HW1.out) (congrArg (Value.int .i64) HW1.out) Try.underlying77 (by kernel_rfl) rfl HB.out.1 HB.out.2 ?_)
  intro w1 hrow1 hf1 hs1
  have h1 := (has_mapT (κ := Int) (ν := Value × List Nat) (f := fun n : Int => Value.int .i64 n) (g := fun q : Value × List Nat => q.1) (H.out.newBlk (.cells #[.int .i64 (V : Int), .slice a n c] 24 (0, 0))))
  have h2 := h1.newRow hf1 (by rw [hp_alloc_size, hp_alloc_size]; exact hrow1)
  have h3 := (h2.newBlk (.cells #[.slice none 0 0, .map (some (w.heap.size + 1)), .slice (some ⟨w.heap.size + 1 + 1, 0, none⟩) (V + 1) (V + 1), .slice none 0 0, .int .i64 0, .slice none 0 0, .bool false] 80 (0, 0))).ord 4 [0, 1, 2]
  have h4 := (((((h3.nilRow 51 1).bunNil).bunNil).nilRow 3 1).nilRow 88 3).ord 8 [5, 4, 3, 7, 2, 6, 1, 0]
  simp only [hp_alloc_size] at h4
  have h5 : Has W _ (engR w1.heap.size V [] [] [] 0 [] false :: Ps) := eng_close (mb := w.heap.size + 1) (cv := .slice none 0 0) (vv := .slice (some ⟨w.heap.size + 1 + 1, 0, none⟩) (V + 1) (V + 1)) (tv := .slice none 0 0) (dv := .slice none 0 0) (by
    simp only [engL, List.cons_append, List.nil_append]
    rw [vals_nil]
    exact h4)
  have H5 := Lib.hid h5
  have hf_ := (hf1.block (w.heap.size) (by first | (simp; done) | (simp; omega)) (by simp)).trans (show _ = some (.cells #[.int .i64 (V : Int), .slice a n c] 24 (0, 0)) by (repeat first | rw [if_pos (by omega)] | rw [if_neg (by omega)] | rw [hp_drew] | rw [hp_drewN] | rw [hp_alloc_size] | rw [hp_setCell_size] | rw [hp_alloc] | rw [hp_setCell] | rw [oMS] | rw [upd_cells] | rw [lSZ] | rw [lSS] | rfl))
  have f0 := heap_eq_cell hf_ 0
  have f1 := heap_eq_cell hf_ 1
  have fl := lt_of_block hf_
  have Hf := Lib.hid hf_
  clear hf_
  clear h1 h2 h3 h4 h5 hrow1 hf1 hs1 H
  go_wp2
  clear f0 f1 fl Hf
  obtain ⟨eb, heb⟩ : ∃ b, w1.heap.size = b := ⟨_, rfl⟩
  rw [heb] at H5 ⊢
  clear heb
  go_loopg [20] n (fun gg z wr => ∃ i : Nat, i ≤ n ∧ n - i ≤ gg ∧ z = .int .i64 (i : Int) ∧ Hid (NewInv W Ps V cs eb wr i))
  case atStart => exact ⟨0, Nat.zero_le _, by omega, rfl, Lib.hid ⟨[], [], [], false, H5.out, NI.nil⟩⟩
  case round =>
    obtain ⟨i, hi, hg, rfl, HI⟩ := hrel
    clear H5
    obtain ⟨CV, L, tr, bad, h, hni⟩ := HI.out
    by_cases hin : i < n
    · obtain ⟨r, hr⟩ : ∃ r, cs[i]? = some r := ⟨_, List.getElem?_eq_getElem (by rw [HN.out]; exact hin)⟩
      obtain ⟨g, off, ra, rc, hae, hgl, hc, hri⟩ := (HF.out wr _ h (fun P hP => List.mem_cons_of_mem _ hP)).1.row hr
      subst hae
      have hrs := HS.out r (List.mem_of_getElem? hr)
      have htk : cs.take (i + 1) = cs.take i ++ [r] := by rw [List.take_add_one, hr]; rfl
      have HTK := Lib.hid htk
      have HRL := Lib.hid (HL.out r (List.mem_of_getElem? hr))
      have HCL := Lib.hid (Clone_h h (xs := iv r) hri (iv_one r) hrs)
      have HNI := Lib.hid hni
      have HRS := Lib.hid hrs
      clear hri hr htk h hni HI hrs
      go_wp2_with fail
      refine HCL.out.mono ?_
      rintro e w2 ⟨v1, rfl, h2⟩
      obtain ⟨va, vc, rfl, hv0, hv1⟩ := owns_form2 h2.row
      have H2 := Lib.hid h2
      clear h2 HCL
      by_cases hre : r.length = 0
      · obtain rfl : r = [] := List.eq_nil_of_length_eq_zero hre
        go_wp2_with fail
        refine Sort_e.mono ?_
        rintro e w3 ⟨rfl, rfl⟩
        go_wp2_with fail
        refine Compact_e.mono ?_
        rintro e w3 ⟨rfl, rfl⟩
        obtain ⟨mb, cv, vv, tv, dv, h⟩ := eng_open H2.out.drop
        simp only [engL, List.cons_append, List.nil_append] at h
        have hb := h.blk
        have z6 := heap_eq_frozen hb 6
        have c6 : _ = some _ := heap_eq_cell hb 6
        have cl := lt_of_block hb
        have H3 := Lib.hid h
        clear h hb H2
        go_wp2
        go_roundg (n - (i + 1))
        case measure => omega
        case rel =>
          refine ⟨i + 1, hin, Nat.le_refl _, by simp, Lib.hid ⟨CV, L, tr, true, eng_close (mb := mb) (cv := cv) (vv := vv) (tv := tv) (dv := dv) ?_, by rw [HTK.out]; exact HNI.out.empty⟩⟩
          simp only [engL, List.cons_append, List.nil_append]
          exact H3.out.blkSet 6 (.bool true)
      · obtain ⟨g1, rfl⟩ : ∃ g1, va = some ⟨g1, 0, none⟩ := by
          cases va with
          | none => have := (hv0 rfl).1; omega
          | some ad => obtain ⟨q, rfl⟩ := hv1 ad rfl; exact ⟨q, rfl⟩
        clear hv0 hv1
        go_wp2_with fail
        refine (Sort_h H2.out rfl HRS.out).mono ?_
        rintro e w3 ⟨rfl, h3⟩
        have H3 := Lib.hid h3
        clear h3 H2
        go_wp2_with fail
        refine (Compact_h H3.out rfl HRS.out).mono ?_
        rintro e w4 ⟨rfl, h4⟩
        have H4 := Lib.hid h4
        clear h4 H3
        obtain ⟨l, hl⟩ : ∃ l, dd r = l := ⟨_, rfl⟩
        have hdm : ∀ y, y ∈ l ↔ y ∈ r := fun y => by rw [← hl]; exact dd_mem
        have hdn : l.Nodup := by rw [← hl]; exact dd_nodup r
        have hdl : l.length ≤ r.length := by rw [← hl]; exact dd_len r
        rw [hl] at H4 ⊢
        have HD := Lib.hid (And.intro hdm (And.intro hdn hdl))
        have hl0 : l.length ≠ 0 := by
          intro e
          have h1 : l = [] := List.eq_nil_of_length_eq_zero e
          cases r with
          | nil => exact hre rfl
          | cons y r => have := (hdm y).2 (by simp); rw [h1] at this; cases this
        clear hl hdm hdn hdl
        by_cases hl1 : l.length = 1
        · obtain ⟨x, rfl⟩ : ∃ x, l = [x] := List.length_eq_one_iff.1 hl1
          have hxV := HRL.out x ((HD.out.1 x).1 (by simp))
          have hr0 : _ = some (Value.int .i64 x) := owns_cell H4.out.row rfl (j := 0) rfl
          have hrl := owns_lt H4.out.row rfl
          have HOF := Lib.hid (ofAt H4.out.drop)
          have HT := Lib.hid HNI.out.htr
          have HX := Lib.hid hxV
          clear hl0 hl1
          have hlen1 : [x].length = 1 := rfl
          rw [hlen1]
          clear hlen1 hxV
          obtain ⟨z, hz⟩ : ∃ z, lv tr x = z := ⟨_, rfl⟩
          have HZ := Lib.hid hz
          clear hz
          have hm1 : ∀ y, y ∈ [x] ↔ y ∈ r := HD.out.1
          have HM1 := Lib.hid hm1
          clear hm1
          go_wp2_with fail
          refine (of_calls (HOF.out.fr (by (repeat first | exact Fr.refl _ _ | assumption | apply Fr.n | apply Fr.d | apply Fr.a | refine Fr.s ?_ (.inr (by simp; try omega)) _))) HT.out HX.out.1 HX.out.2 (by omega)).mono ?_
          rw [HZ.out]
          rintro e w5 ⟨rfl, rfl⟩
          by_cases hz1 : z = -1
          · subst hz1
            obtain ⟨mb, cv, vv, tv, dv, h⟩ := eng_open H4.out.drop
            simp only [engL, List.cons_append, List.nil_append] at h
            have hb := h.blk
            have z6 := heap_eq_frozen hb 6
            have c6 : _ = some _ := heap_eq_cell hb 6
            have cl := lt_of_block hb
            have H5 := Lib.hid h
            clear h hb H4 hr0 hrl
            go_wp2
            go_roundg (n - (i + 1))
            case measure => omega
            case rel =>
              refine ⟨i + 1, hin, Nat.le_refl _, by simp, Lib.hid ⟨CV, L, tr, true, eng_close (mb := mb) (cv := cv) (vv := vv) (tv := tv) (dv := dv) ?_, by rw [HTK.out]; exact HNI.out.against HM1.out ((lv_mone HT.out).1 HZ.out)⟩⟩
              simp only [engL, List.cons_append, List.nil_append]
              exact (H5.out.blkSet 6 (.bool true)).step (by (repeat first | exact Fr.refl _ _ | assumption | apply Fr.n | apply Fr.d | apply Fr.a | refine Fr.s ?_ (.inr (by simp; try omega)) _))
          · have hb1 : (z == -1) = false := by simpa using hz1
            go_wp2_with fail
            refine (of_calls (HOF.out.fr (by (repeat first | exact Fr.refl _ _ | assumption | apply Fr.n | apply Fr.d | apply Fr.a | refine Fr.s ?_ (.inr (by simp; try omega)) _))) HT.out HX.out.1 HX.out.2 (by omega)).mono ?_
            rw [HZ.out]
            rintro e w5 ⟨rfl, rfl⟩
            have hna : -x ∉ tr := fun e => hz1 (by rw [← HZ.out]; exact (lv_mone HT.out).2 e)
            have HNA := Lib.hid hna
            clear hna
            by_cases hz0 : z = 0
            · subst hz0
              have hnx : x ∉ tr := fun e => by have := HZ.out; rw [lv_one.2 e] at this; omega
              have HNX := Lib.hid hnx
              clear hnx
              go_wp2_with fail
              refine (set_calls (H4.out.drop.step (by (repeat first | exact Fr.refl _ _ | assumption | apply Fr.n | apply Fr.d | apply Fr.a | refine Fr.s ?_ (.inr (by simp; try omega)) _))) HT.out hV HX.out.1 HX.out.2 ⟨HNX.out, HNA.out⟩).mono ?_
              rintro e w6 ⟨rfl, h6⟩
              have H6 := Lib.hid h6
              clear h6 H4 hr0 hrl
              go_wp2
              go_roundg (n - (i + 1))
              case measure => omega
              case rel => exact ⟨i + 1, hin, Nat.le_refl _, by simp, Lib.hid ⟨CV, L, tr ++ [x], bad, H6.out.step (by (repeat first | exact Fr.refl _ _ | assumption | apply Fr.n | apply Fr.d | apply Fr.a | refine Fr.s ?_ (.inr (by simp; try omega)) _)), by rw [HTK.out]; exact HNI.out.unit HM1.out ⟨HNX.out, HNA.out⟩ HX.out⟩⟩
            · have hb2 : (z == 0) = false := by simpa using hz0
              have hx1 : x ∈ tr := by
                rcases lv_cases tr x with e | e | e
                · exact lv_one.1 e
                · rw [HZ.out] at e; exact absurd e hz1
                · rw [HZ.out] at e; exact absurd e hz0
              have HX1 := Lib.hid hx1
              clear hx1 hr0 hrl hz1 hz0
              go_wp2
              go_roundg (n - (i + 1))
              case measure => omega
              case rel => exact ⟨i + 1, hin, Nat.le_refl _, by simp, Lib.hid ⟨CV, L, tr, bad, H4.out.drop.step (by (repeat first | exact Fr.refl _ _ | assumption | apply Fr.n | apply Fr.d | apply Fr.a | refine Fr.s ?_ (.inr (by simp; try omega)) _)), by rw [HTK.out]; exact HNI.out.there HM1.out HX1.out⟩⟩
        · have hl2 : 2 ≤ l.length := by omega
          clear hl0 hl1
          obtain ⟨mb, cv, vv, tv, dv, h⟩ := eng_open H4.out.swap
          simp only [engL, List.cons_append, List.nil_append] at h
          obtain ⟨ca, cc, rfl, _, _⟩ := owns_form2 (h.bring 1).row
          have h9 : Has W w4 (newL eb V g1 vc l CV (CV.map (·.1)) L mb (.slice ca CV.length cc) vv tv dv tr bad ++ Ps) := by
            unfold newL
            rw [List.length_map]
            exact h.ord 9 [8, 0, 1, 2, 3, 4, 5, 6, 7]
          obtain ⟨m, hm⟩ : ∃ m, CV.length = m := ⟨_, rfl⟩
          have hml : (CV.map (·.1)).length = m := by rw [List.length_map, hm]
          have hm6 : m ≤ 262144 := by
            have h1 := HNI.out.hln
            rw [List.length_map, List.length_take, hm] at h1
            omega
          have hmaxl : (300001 : Nat) ≤ maxLen := by decide
          have HLY := Lib.hid (show m + 1 ≤ maxLen ∧ (m + 1) * 24 ≤ 140737488355328 from by omega)
          rw [hm] at h9
          have hb := (h9.bring 1).blk
          have c0 : _ = some _ := heap_eq_cell hb 0
          have z0 := heap_eq_frozen hb 0
          have cl := lt_of_block hb
          have h10 : Has W w4 (Hp.row 51 1 (.slice ca m cc) m (CV.map (·.1)) :: (newL eb V g1 vc l CV (CV.map (·.1)) L mb (.slice ca m cc) vv tv dv tr bad ++ Ps).eraseIdx 2) := by
            have h11 := h9.bring 2
            unfold newL at h11
            rw [hml] at h11
            unfold newL
            rw [hml]
            exact h11
          have H10 := Lib.hid h10
          have HML := Lib.hid (And.intro hm hml)
          have hl6 : l.length ≤ 1000000 := by have := HD.out.2.2; have := HRS.out; omega
          have HL6 := Lib.hid hl6
          have hlvc := owns_cap H4.out.row
          clear h h9 h10 hb hm hml hmaxl H4 hl6
          go_wp2_with (at_builtin; refine append_has (W := W) (size := 1) (bytes := 24) (z := .slice none 0 0) (e := 51) (n := m) (xs := CV.map (·.1)) (news := [.slice (some ⟨g1, 0, none⟩) l.length vc]) rfl rfl Try.underlying22 (by kernel_rfl) rfl (by decide) rfl rfl (H10.out.step (by (repeat first | exact Fr.refl _ _ | assumption | apply Fr.n | apply Fr.d | apply Fr.a | refine Fr.s ?_ (.inr (by simp; try omega)) _))) (by (repeat first | rw [if_pos (by omega)] | rw [if_neg (by omega)] | rw [hp_drew] | rw [hp_drewN] | rw [hp_alloc_size] | rw [hp_setCell_size] | rw [hp_alloc] | rw [hp_setCell] | rw [oMS] | rw [upd_cells] | rw [lSZ] | rw [lSS] | rfl)) rfl (by simp [Value.oneCell']) HLY.out.1 HLY.out.2 ?_)
          intro g2 cap2 w5 h5 hf5 hg5
          have hb5 := (h5.bring 2).blk
          clear c0 z0 cl
          have c0 : _ = some _ := heap_eq_cell hb5 0
          have z0 := heap_eq_frozen hb5 0
          have cl := lt_of_block hb5
          have H5 := Lib.hid h5
          clear h5 hb5 hf5 hg5 H10
          go_wp2
          obtain ⟨hs, hhs⟩ : ∃ hs, CV.map (·.1) ++ [Value.slice (some ⟨g1, 0, none⟩) l.length vc] = hs := ⟨_, rfl⟩
          have HHS := Lib.hid hhs
          have hsl : hs.length = m + 1 := by rw [← hhs, List.length_append, HML.out.2]; rfl
          have h6 : Has W (w5.setCell ⟨eb, 0, none⟩ (.slice (some ⟨g2, 0, none⟩) (m + 1) cap2)) (newL eb V g1 vc l CV hs L mb (.slice (some ⟨g2, 0, none⟩) (m + 1) cap2) vv tv dv tr bad ++ Ps) := by
            have h7 := ((H5.out.bring 2).blkSet 0 (.slice (some ⟨g2, 0, none⟩) (m + 1) cap2)).ord 9 [2, 0, 1, 3, 4, 5, 6, 7, 8]
            unfold newL
            rw [hsl, ← hhs]
            exact h7
          have HSL := Lib.hid hsl
          have H6 := Lib.hid h6
          clear hhs hsl h6 H5 c0 z0 cl
          have hwl0 : ∀ y, (wl L y).length ≤ 262144 := fun y => by
            have h1 := wt_len HNI.out.hwt y
            rw [List.length_map, HML.out.1] at h1
            omega
          have HWL := Lib.hid hwl0
          clear hwl0
          go_loopg [50] 2 (fun gg z wr => ∃ j : Nat, j ≤ 2 ∧ 2 - j ≤ gg ∧ z = .int .i64 (j : Int) ∧ Hid (∃ L', wl L' = wj (wl L) m (l.take j) ∧ Has W wr (newL eb V g1 vc l CV hs L' mb (.slice (some ⟨g2, 0, none⟩) (m + 1) cap2) vv tv dv tr bad ++ Ps)))
          case atStart => exact ⟨0, by omega, by omega, rfl, Lib.hid ⟨L, rfl, H6.out⟩⟩
          case round =>
            obtain ⟨j, hj, hgj, rfl, HJ⟩ := hrel
            clear H6
            obtain ⟨L', hL', h⟩ := HJ.out
            by_cases hj2 : j < 2
            · obtain ⟨y, hy⟩ : ∃ y, l[j]? = some y := ⟨_, List.getElem?_eq_getElem (by omega)⟩
              have hr1 := owns_cell h.row rfl (iv_get hy)
              have hrl := owns_lt h.row rfl
              have hb := (h.bring 1).blk
              have c1 : _ = some _ := heap_eq_cell hb 1
              have cl := lt_of_block hb
              have HMP := Lib.hid (h.bring 4).map
              have h5 := (h.bring 5).pickKey y
              have hly : (wl L' y).length ≤ 262146 := by
                rw [hL']
                have h1 := wj_len HWL.out m (l.take j) y
                rw [List.length_take] at h1
                omega
              have hmaxl : (300001 : Nat) ≤ maxLen := by decide
              have HLL := Lib.hid (show (wl L' y).length + 1 ≤ maxLen ∧ ((wl L' y).length + 1) * 8 ≤ 140737488355328 from by omega)
              have H5 := Lib.hid h5
              have HLW := Lib.hid hL'
              have HY := Lib.hid hy
              clear h hb h5 hly hmaxl hL' hy HJ
              go_upto_region 14 with fail
              refine wp_region_segs [([0, 1, 2, 3, 4, 5, 6, 7, 8, 9, 10, 11, 12, 13], [3]), ([14], [])] (by kernel_rfl) (by kernel_rfl) ?_
              (simp only [wpSegs, pick, Array.getD_eq_getD_getElem?, List.getElem?_toArray, List.getElem?_cons_succ, List.getElem?_cons_zero, Option.getD_some])
              go_wp2_with (first | (at_lookup; refine wpList_lookup_wv (f := fun n : Int => Value.int .i64 n) (L := L') (k := y) rfl rfl rfl rfl (HMP.out) Try.underlying76 keysI (by kernel_rfl) ?_) | (at_builtin; refine append_has (W := W) (size := 1) (bytes := 8) (z := .int .i64 0) (e := 3) (n := (wl L' y).length) (xs := nv (wl L' y)) (news := [.int .i64 (m : Int)]) rfl rfl Try.underlying51 (by kernel_rfl) rfl (by decide) rfl rfl (H5.out.step (by (repeat first | exact Fr.refl _ _ | assumption | apply Fr.n | apply Fr.d | apply Fr.a | refine Fr.s ?_ (.inr (by simp; try omega)) _))) (by (repeat first | rw [if_pos (by omega)] | rw [if_neg (by omega)] | rw [hp_drew] | rw [hp_drewN] | rw [hp_alloc_size] | rw [hp_setCell_size] | rw [hp_alloc] | rw [hp_setCell] | rw [oMS] | rw [upd_cells] | rw [lSZ] | rw [lSS] | rfl)) rfl (by simp [Value.oneCell']) HLL.out.1 HLL.out.2 ?_))
              intro g3 cap3 w9 h9 hf9 hg9
              clear c1 cl hr1 hrl
              have hb := (h9.bring 3).blk
              have c1 : _ = some _ := heap_eq_cell hb 1
              have cl := lt_of_block hb
              have HMP9 := Lib.hid (h9.bring 6).map
              have H9 := Lib.hid h9
              clear h9 hb hf9 H5 HMP
              go_wp2
              refine Mid.intro ⟨⟨again_cell (T := 76) rfl rfl rfl Try.underlying76 rfl c1 rfl, trivial⟩, ?_⟩
              go_wp2_with (at_mapUpdate; refine wpList_update_wl (f := fun n : Int => Value.int .i64 n) (L := L') (k := y) (wl L' y ++ [m]) rfl rfl rfl rfl rfl (HMP9.out) Try.underlying76 keysI ?_)
              intro w10 hm10 hf10 hs10
              have h10 := ((H9.out.bring 6).mapped hm10 hf10).ord 10 [1, 2, 0, 3, 4, 5, 6, 7, 8, 9]
              have h11 := Has.nvSnoc (k := m) (l := wl L' y) h10
              have h12 := (Has.layKey (L := L') (k := y) h11).ord 9 [2, 3, 4, 5, 1, 0, 6, 7, 8]
              have H12 := Lib.hid h12
              clear h10 h11 h12 H9 HMP9 hm10 hf10 hs10 c1 cl
              go_wp2
              refine Mid.intro ⟨trivial, Strict.intro rfl ?_⟩
              go_wp2
              go_roundg (2 - (j + 1))
              case measure => omega
              case rel =>
                refine ⟨j + 1, hj2, Nat.le_refl _, by simp, Lib.hid ⟨put L' y (.slice (some ⟨g3, 0, none⟩) ((wl L' y).length + 1) cap3, wl L' y ++ [m]), ?_, H12.out.step (by (repeat first | exact Fr.refl _ _ | assumption | apply Fr.n | apply Fr.d | apply Fr.a | refine Fr.s ?_ (.inr (by simp; try omega)) _))⟩⟩
                rw [wl_upd, List.take_add_one, HY.out, HLW.out]
                exact (wj_snoc _ _ _ _).symm
            · obtain rfl : j = 2 := by omega
              obtain ⟨y0, hy0⟩ : ∃ y, l[0]? = some y := ⟨_, List.getElem?_eq_getElem (by omega)⟩
              obtain ⟨y1, hy1⟩ : ∃ y, l[1]? = some y := ⟨_, List.getElem?_eq_getElem (by omega)⟩
              have hy01 : y1 ≠ y0 := by
                rintro rfl
                obtain ⟨_, e1⟩ := List.getElem?_eq_some_iff.1 hy0
                obtain ⟨_, e2⟩ := List.getElem?_eq_some_iff.1 hy1
                have := (List.getElem_inj HD.out.2.1).1 (e1.trans e2.symm)
                omega
              have htk2 : l.take 2 = [y0, y1] := by
                rw [show (2 : Nat) = 1 + 1 from rfl, List.take_add_one, show (1 : Nat) = 0 + 1 from rfl, List.take_add_one, hy0, hy1]
                rfl
              have hni2 := HNI.out.clause HD.out.1 HD.out.2.1 hl2 HD.out.2.2 (fun x hx => HRL.out x ((HD.out.1 x).1 hx)) hy0 hy1
              rw [List.length_map, HML.out.1] at hni2
              have hwe : wl L' = Sv.upd (Sv.upd (wl L) y0 (wl L y0 ++ [m])) y1 (wl L y1 ++ [m]) := by
                rw [hL', htk2]
                show Sv.upd (Sv.upd (wl L) y0 (wl L y0 ++ [m])) y1 (Sv.upd (wl L) y0 (wl L y0 ++ [m]) y1 ++ [m]) = _
                rw [show Sv.upd (wl L) y0 (wl L y0 ++ [m]) y1 = wl L y1 from if_neg hy01]
              rw [← hwe] at hni2
              have h7 := (Has.layNew (R := rowC) (l := CV) (b := (.slice (some ⟨g1, 0, none⟩) l.length vc, l)) (h.ord 9 [0, 3, 1, 2, 4, 5, 6, 7, 8])).ord 8 [1, 2, 0, 3, 4, 5, 6, 7]
              have H7 := Lib.hid h7
              have HNI2 := Lib.hid hni2
              clear h h7 hni2 hwe htk2 hL' HJ hy01 hy0 hy1
              go_wp2
              go_roundg (n - (i + 1))
              case measure => omega
              case rel =>
                refine ⟨i + 1, hin, Nat.le_refl _, by simp, Lib.hid ⟨CV ++ [(.slice (some ⟨g1, 0, none⟩) l.length vc, l)], L', tr, bad, eng_close (mb := mb) (cv := .slice (some ⟨g2, 0, none⟩) (m + 1) cap2) (vv := vv) (tv := tv) (dv := dv) ?_, ?_⟩⟩
                · unfold engL
                  rw [List.map_append, show [((Value.slice (some ⟨g1, 0, none⟩) l.length vc, l) : Value × List Int)].map (·.1) = [Value.slice (some ⟨g1, 0, none⟩) l.length vc] from rfl, HHS.out, List.length_append, HML.out.1, show [((Value.slice (some ⟨g1, 0, none⟩) l.length vc, l) : Value × List Int)].length = 1 from rfl]
                  have h8 := H7.out
                  unfold newL at h8
                  rw [HSL.out] at h8
                  exact h8
                · rw [HTK.out, List.map_append]; exact HNI2.out
    · obtain rfl : i = n := by omega
      have hni2 := hni
      rw [List.take_of_length_le (by rw [HN.out]; exact Nat.le_refl _)] at hni2
      have HNI := Lib.hid hni2
      have H1 := Lib.hid h
      clear hni2 hni h HI
      go_wp2
      go_ret
      exact ⟨eb, CV, L, tr, bad, rfl, H1.out, HNI.out⟩
end Go.Proofs.Ytjidldfnlejdhaa
end

section
/- solve: a fresh engine searches; First. -/
namespace Go.Proofs.Ytjidldfnlejdhaa
open Go Go.RowKit Go.Proofs.Rg Go.Proofs.Mp Go.Proofs.Hp Go.Proofs.Sv
set_option linter.unusedVariables false
set_option linter.unusedSimpArgs false
def Sols (V : Nat) (cs : List (List Int)) : List (List Bool) := (ext V []).filter (sat cs)
/-- an engine that has found an assignment: what `turn` and `search` go on from -/
def Found (V : Nat) (cs : List (List Int)) (U : List Int) (cl0 : List (List Int)) (D : List Dec) (cl : List (List Int)) (wt : Int → List Nat) (tr : List Int) : Prop :=
  EI V (fun A => A.length = V ∧ sat cs A = true) U cl0 D cl wt tr tr.length ∧ ∀ v : Nat, 1 ≤ v → v ≤ V → (v : Int) ∈ tr ∨ -(v : Int) ∈ tr
def Base (V : Nat) (cs : List (List Int)) (U : List Int) (cl0 : List (List Int)) : Prop :=
  (∀ A, A.length = V → (sat cs A = true ↔ sat cl0 A = true ∧ ∀ x ∈ U, litT A x = true)) ∧ ClOk V cl0 ∧ cl0.length ≤ 300000 ∧ ∀ c ∈ cl0, c.length ≤ 1000000
def StartPost (W : World) (Ps : List Res) (V : Nat) (cs : List (List Int)) (p : Nat) (e : Ending) (w' : World) : Prop :=
  ∃ b CV L tr dn D bad, e = .returned (.bool b) ∧ Has W w' (engR p V CV L tr dn D bad :: Ps) ∧ (b = false → Sols V cs = []) ∧
    (b = true → bad = false ∧ dn = tr.length ∧ ∃ U cl0, Base V cs U cl0 ∧ Found V cs U cl0 D (CV.map (·.2)) (wl L) tr ∧ (Sols V cs).filter (left D) = Sols V cs)
theorem left_none (l : List (List Bool)) : l.filter (left []) = l := List.filter_eq_self.2 fun A _ => rfl
theorem start_calls {W w : World} {Ps : List Res} {p V : Nat} {CV : List (Value × List Int)} {L : List (Int × (Value × List Nat))} {tr : List Int} {bad : Bool} {cs : List (List Int)} (h : Has W w (engR p V CV L tr 0 [] bad :: Ps)) (hni : NI V cs (CV.map (·.2)) (wl L) tr bad) (hr : rightF V cs = true) (hs : ∀ r ∈ cs, r.length ≤ 1000000) :
    Calls Try.prog 29 #[.pointer (some ⟨p, 0, none⟩)] w (StartPost W Ps V cs p) := by
  obtain ⟨hcl, hV, hlit⟩ := rightF_len hr
  cases hbad : bad with
  | true =>
    subst hbad
    refine (search_bad h).mono ?_
    rintro e w' ⟨rfl, h2⟩
    exact ⟨false, CV, L, tr, 0, [], true, rfl, h2, fun _ => List.filter_eq_nil_iff.2 fun A _ => by rw [hni.hb rfl A]; simp, by simp⟩
  | false =>
    subst hbad
    have hB : Base V cs tr (CV.map (·.2)) := ⟨fun A _ => hni.hg rfl A, hni.hcl, by have := hni.hln; omega, hni.hmx 1000000 hs⟩
    refine (search_calls h hV (NI.start hni) (Nat.zero_le _) hB.1 hB.2.1 hB.2.2).mono ?_
    rintro e w' ⟨b, CV', L', tr', dn', D', rfl, h2, h3, h4⟩
    refine ⟨b, CV', L', tr', dn', D', false, rfl, h2, fun hb => ?_, fun hb => ?_⟩
    · have := h3 hb
      rwa [left_none] at this
    · obtain ⟨a1, a2, a3, a4⟩ := h4 hb
      rw [left_none] at a4
      exact ⟨rfl, a2, tr, _, hB, ⟨a1, a3⟩, a4⟩
theorem Found.head {V : Nat} {cs : List (List Int)} {U : List Int} {cl0 : List (List Int)} {D : List Dec} {cl : List (List Int)} {wt : Int → List Nat} {tr : List Int} (hB : Base V cs U cl0) (h : Found V cs U cl0 D cl wt tr) :
    (Sols V cs).filter (left D) = asg V tr :: (Sols V cs).filter (branch D) := (found hB.1 h.1 h.2).1
def FirstPost (W : World) (Ps : List Res) (V : Nat) (cs : List (List Int)) (e : Ending) (w' : World) : Prop :=
  (rightF V cs = false ∧ e = .returned (.tuple #[.slice none 0 0, .bool false, .int .i64 2]) ∧ Has W w' Ps) ∨
  (rightF V cs = true ∧ Sols V cs = [] ∧ e = .returned (.tuple #[.slice none 0 0, .bool false, .int .i64 0]) ∧ Has W w' Ps) ∨
  (rightF V cs = true ∧ ∃ A S v, Sols V cs = A :: S ∧ e = .returned (.tuple #[v, .bool true, .int .i64 0]) ∧ Has W w' (Hp.row 4 1 v V (bv A) :: Ps))
set_option maxHeartbeats 4000000 in
theorem First_calls {W w : World} {Ps : List Res} (h : Has W w Ps) {V : Nat} {a : Option Addr} {c : Nat} {cs : List (List Int)} (hF : FormSrc W Ps a c cs) (hs : ∀ r ∈ cs, r.length ≤ 1000000) :
    Calls Try.prog 11 #[.agg #[.int .i64 (V : Int), .slice a cs.length c]] w (FirstPost W Ps V cs) := by
  have H0 := Lib.hid (h.newBlk (.cells #[.int .i64 (V : Int), .slice a cs.length c] 24 (0, 0)))
  have HF := Lib.hid hF
  have HS := Lib.hid hs
  clear h hF hs
  go_enter Try.func11, Try.ntmps11
  go_wp2_with fail
  refine (FRight_calls (HF.out _ _ H0.out fun P hP => List.mem_cons_of_mem _ hP)).mono ?_
  rintro e w1 ⟨rfl, hf1⟩
  obtain ⟨R, hR⟩ : ∃ R, rightF V cs = R := ⟨_, rfl⟩
  rw [hR]
  have H1 := Lib.hid (H0.out.step hf1)
  obtain ⟨fb, hfb⟩ : ∃ b, w.heap.size = b := ⟨_, rfl⟩
  rw [hfb] at H1 ⊢
  have HR := Lib.hid hR
  clear hf1 H0 hfb hR
  cases R with
  | false =>
    go_wp2
    go_ret3
    exact .inl ⟨HR.out, rfl, H1.out.drop⟩
  | true =>
    have hb := H1.out.blk
    have c0 : _ = some _ := heap_eq_cell hb 0
    have c1 : _ = some _ := heap_eq_cell hb 1
    have cl := lt_of_block hb
    clear hb
    go_wp2_with fail
    refine (newEngine_calls H1.out (fun w Qs hw hP => HF.out w Qs hw fun P h => hP P (List.mem_cons_of_mem _ h)) HR.out HS.out).mono ?_
    rintro e w2 ⟨p, CV, L, tr, bad, rfl, h2, hni⟩
    have H2 := Lib.hid h2
    have HNI := Lib.hid hni
    clear h2 hni c0 c1 cl H1
    go_wp2_with fail
    refine (start_calls H2.out HNI.out HR.out HS.out).mono ?_
    rintro e w3 ⟨b, CV', L', tr', dn', D', bad', rfl, h3, hno, hyes⟩
    have H3 := Lib.hid h3
    cases b with
    | false =>
      have HS0 := Lib.hid (hno rfl)
      clear hno hyes h3 H2
      go_wp2
      go_ret3
      exact .inr (.inl ⟨HR.out, HS0.out, rfl, H3.out.drop.drop⟩)
    | true =>
      obtain ⟨rfl, rfl, U, cl0, hB, hf, hl⟩ := hyes rfl
      have hh := hf.head hB
      rw [hl] at hh
      have HS0 := Lib.hid hh
      have hV := (rightF_len HR.out).2.1
      have hb := (H3.out.bring 1).blk
      have c0 : _ = some _ := heap_eq_cell hb 0
      have cl := lt_of_block hb
      clear hno hyes h3 H2 hB hf hl hh hb
      go_wp2_with fail
      refine (first_calls H3.out hV (Nat.le_refl _)).mono ?_
      rintro e w4 ⟨v, rfl, h4⟩
      have H4 := Lib.hid h4
      clear h4 H3 c0 cl
      go_wp2
      go_ret3
      refine .inr (.inr ⟨HR.out, asg V tr', _, v, HS0.out, rfl, ?_⟩)
      have h5 := H4.out
      rw [List.take_of_length_le (by rw [asg_length]; exact Nat.le_refl _)] at h5
      exact (((h5.bring 1).drop).bring 1).drop
end Go.Proofs.Ytjidldfnlejdhaa
end

section
/- solve: All. -/
namespace Go.Proofs.Ytjidldfnlejdhaa
open Go Go.RowKit Go.Proofs.Rg Go.Proofs.Mp Go.Proofs.Hp Go.Proofs.Sv
set_option linter.unusedVariables false
set_option linter.unusedSimpArgs false
theorem firsts_cons (n : Nat) (A : List Bool) (T : List (List Bool)) : firsts n (A :: T) = A.take n :: firsts n (T.filter fun B => decide (B.take n ≠ A.take n)) := by
  unfold firsts
  rw [List.map_cons, List.eraseDups_cons, List.filter_map]
  congr 4
  funext B
  simp only [Function.comp, Bool.not_eq_eq_eq_not, decide_not]
  by_cases h : B.take n = A.take n
  · simp [h]
  · simp [h]
section
variable {V : Nat} {cs : List (List Int)} {U : List Int} {cl0 : List (List Int)} {D : List Dec} {cl : List (List Int)} {wt : Int → List Nat} {tr : List Int}
theorem Sols_M {A : List Bool} (h : A ∈ Sols V cs) : A.length = V ∧ sat cs A = true := by
  obtain ⟨h1, h2⟩ := List.mem_filter.1 h
  have := ext_length h1
  exact ⟨by simpa using this, h2⟩
/-- what is left after a turn -/
theorem Found.turned (hB : Base V cs U cl0) (h : Found V cs U cl0 D cl wt tr) {n : Nat} {D' : List Dec} (ht : turnF n D = some D') :
    (Sols V cs).filter (left D') = ((Sols V cs).filter (branch D)).filter fun B => decide (B.take n ≠ (asg V tr).take n) := by
  obtain ⟨_, hg, hs⟩ := found hB.1 h.1 h.2
  rw [List.filter_filter]
  refine List.filter_congr fun A hA => ?_
  have := turn_left (n := n) (M := fun A => A.length = V ∧ sat cs A = true) (fun A hA => hA.1) h.1.b.s h.1.b.htr ht (Sols_M hA) ⟨asg_length V tr, hs⟩ hg
  rw [Bool.eq_iff_iff, this]
  simp [and_comm]
theorem Found.ended (hB : Base V cs U cl0) (h : Found V cs U cl0 D cl wt tr) {n : Nat} (ht : turnF n D = none) :
    ((Sols V cs).filter (branch D)).filter (fun B => decide (B.take n ≠ (asg V tr).take n)) = [] := by
  obtain ⟨_, hg, hs⟩ := found hB.1 h.1 h.2
  rw [List.filter_eq_nil_iff]
  intro A hA
  obtain ⟨h1, h2⟩ := List.mem_filter.1 hA
  have := turn_none (n := n) (M := fun A => A.length = V ∧ sat cs A = true) (fun A hA => hA.1) h.1.b.s h.1.b.htr ht (Sols_M h1) ⟨asg_length V tr, hs⟩ hg h2
  simp [this]
theorem Found.firsts (hB : Base V cs U cl0) (h : Found V cs U cl0 D cl wt tr) (n : Nat) :
    Sv.firsts n ((Sols V cs).filter (left D)) = (asg V tr).take n :: (match turnF n D with | none => [] | some D' => Sv.firsts n ((Sols V cs).filter (left D'))) := by
  rw [h.head hB, firsts_cons]
  cases ht : turnF n D with
  | none => rw [h.ended hB ht]; rfl
  | some D' => simp only []; rw [h.turned hB ht]
end
/-- a turn, then a search -/
def NextPost (W : World) (Ps : List Res) (V : Nat) (cs : List (List Int)) (U : List Int) (cl0 : List (List Int)) (p : Nat) (D : List Dec) (e : Ending) (w' : World) : Prop :=
  ∃ b CV L tr dn D', e = .returned (.bool b) ∧ Has W w' (engR p V CV L tr dn D' false :: Ps) ∧ (b = false → (Sols V cs).filter (left D) = []) ∧
    (b = true → dn = tr.length ∧ Found V cs U cl0 D' (CV.map (·.2)) (wl L) tr ∧ (Sols V cs).filter (left D') = (Sols V cs).filter (left D))
theorem again_calls {W w : World} {Ps : List Res} {p V : Nat} {CV : List (Value × List Int)} {L : List (Int × (Value × List Nat))} {tr : List Int} {dn : Nat} {D D' : List Dec} {cs : List (List Int)} {U : List Int} {cl0 : List (List Int)} {n : Nat} (hV : V ≤ 65536) (hB : Base V cs U cl0)
    (hf : Found V cs U cl0 D (CV.map (·.2)) (wl L) tr) (ht : turnF n D = some D') (h : Has W w (engR p V CV L (turnT n D tr) (turnN n D dn) D' false :: Ps)) :
    Calls Try.prog 29 #[.pointer (some ⟨p, 0, none⟩)] w (NextPost W Ps V cs U cl0 p D') := by
  obtain ⟨h1, h2⟩ := BI.turnE dn hf.1.b ht
  refine (search_calls h hV h1 h2 hB.1 hB.2.1 hB.2.2).mono ?_
  rintro e w' ⟨b, CV', L', tr', dn', D2, rfl, h2, h3, h4⟩
  exact ⟨b, CV', L', tr', dn', D2, rfl, h2, h3, fun hb => ⟨(h4 hb).2.1, ⟨(h4 hb).1, (h4 hb).2.2.1⟩, (h4 hb).2.2.2⟩⟩
end Go.Proofs.Ytjidldfnlejdhaa
end

section
/- solve: All walked. -/
namespace Go.Proofs.Ytjidldfnlejdhaa
open Go Go.RowKit Go.Proofs.Rg Go.Proofs.Mp Go.Proofs.Hp Go.Proofs.Sv
set_option linter.unusedVariables false
set_option linter.unusedSimpArgs false
def goodA (V : Nat) (cs : List (List Int)) (n most : Int) : Bool := rightF V cs && decide (0 ≤ n) && decide (n ≤ V) && decide (0 ≤ most) && decide (most ≤ 262144)
def rowB (q : Value × List Bool) : Res := Hp.row 4 1 q.1 q.2.length (bv q.2)
def AllPost (W : World) (Ps : List Res) (V : Nat) (cs : List (List Int)) (n most : Int) (e : Ending) (w' : World) : Prop :=
  (goodA V cs n most = false ∧ e = .returned (.tuple #[.slice none 0 0, .int .i64 2]) ∧ Has W w' Ps) ∨
  (goodA V cs n most = true ∧ most.toNat < (firsts n.toNat (Sols V cs)).length ∧ e = .returned (.tuple #[.slice none 0 0, .int .i64 14]) ∧ Has W w' Ps) ∨
  (goodA V cs n most = true ∧ ∃ (OV : List (Value × List Bool)) (vo : Value), OV.map (·.2) = firsts n.toNat (Sols V cs) ∧ OV.length ≤ most.toNat ∧ e = .returned (.tuple #[vo, .int .i64 0]) ∧ Has W w' (Hp.row 25 1 vo OV.length (OV.map (·.1)) :: bun (OV.map rowB) :: Ps))
/-- the engine and the list so far -/
def AllInv (W : World) (Ps : List Res) (V : Nat) (cs : List (List Int)) (n p : Nat) (F : List (List Bool)) (OV : List (Value × List Bool)) (vo : Value) (b : Bool) (wr : World) : Prop :=
  ∃ CV L tr dn D bad, Has W wr (engR p V CV L tr dn D bad :: Hp.row 25 1 vo OV.length (OV.map (·.1)) :: bun (OV.map rowB) :: Ps) ∧ (b = false → OV.map (·.2) = F) ∧
    (b = true → bad = false ∧ dn = tr.length ∧ ∃ U cl0, Base V cs U cl0 ∧ Found V cs U cl0 D (CV.map (·.2)) (wl L) tr ∧ F = OV.map (·.2) ++ firsts n ((Sols V cs).filter (left D)))
set_option maxHeartbeats 8000000 in
set_option maxRecDepth 100000 in
theorem All_calls {W w : World} {Ps : List Res} (h : Has W w Ps) {V : Nat} {a : Option Addr} {c : Nat} {cs : List (List Int)} (hF : FormSrc W Ps a c cs) (hs : ∀ r ∈ cs, r.length ≤ 1000000) {n most : Int} :
    Calls Try.prog 16 #[.agg #[.int .i64 (V : Int), .slice a cs.length c], .int .i64 n, .int .i64 most] w (AllPost W Ps V cs n most) := by
  have H0 := Lib.hid (h.newBlk (.cells #[.int .i64 (V : Int), .slice a cs.length c] 24 (0, 0)))
  have HF := Lib.hid hF
  have HS := Lib.hid hs
  clear h hF hs
  go_enter Try.func16, Try.ntmps16
  go_wp2_with fail
  refine (FRight_calls (HF.out _ _ H0.out fun P hP => List.mem_cons_of_mem _ hP)).mono ?_
  rintro e w1 ⟨rfl, hf1⟩
  obtain ⟨R, hR⟩ : ∃ R, rightF V cs = R := ⟨_, rfl⟩
  rw [hR]
  have H1 := Lib.hid (H0.out.step hf1)
  obtain ⟨fb, hfb⟩ : ∃ b, w.heap.size = b := ⟨_, rfl⟩
  rw [hfb] at H1 ⊢
  have HR := Lib.hid hR
  have hb := H1.out.blk
  have c0 : _ = some _ := heap_eq_cell hb 0
  have c1 : _ = some _ := heap_eq_cell hb 1
  have cl := lt_of_block hb
  clear hf1 H0 hfb hR hb
  cases R with
  | false =>
    go_wp2
    go_ret2
    exact .inl ⟨by unfold goodA; rw [HR.out]; rfl, rfl, H1.out.drop⟩
  | true =>
    by_cases h0 : n < 0
    · have b0 : decide (n < 0) = true := by simpa using h0
      go_wp2
      go_ret2
      exact .inl ⟨by unfold goodA; simp; omega, rfl, H1.out.drop⟩
    by_cases h1 : n > V
    · have b0 : decide (n < 0) = false := by simpa using h0
      have b1 : decide (n > (V : Int)) = true := by simpa using h1
      go_wp2
      go_ret2
      exact .inl ⟨by unfold goodA; simp; omega, rfl, H1.out.drop⟩
    by_cases h2 : most < 0
    · have b0 : decide (n < 0) = false := by simpa using h0
      have b1 : decide (n > (V : Int)) = false := by simpa using h1
      have b2 : decide (most < 0) = true := by simpa using h2
      go_wp2
      go_ret2
      exact .inl ⟨by unfold goodA; simp; omega, rfl, H1.out.drop⟩
    by_cases h3 : most > 262144
    · have b0 : decide (n < 0) = false := by simpa using h0
      have b1 : decide (n > (V : Int)) = false := by simpa using h1
      have b2 : decide (most < 0) = false := by simpa using h2
      have b3 : decide (most > 262144) = true := by simpa using h3
      go_wp2
      go_ret2
      exact .inl ⟨by unfold goodA; simp; omega, rfl, H1.out.drop⟩
    have b0 : decide (n < 0) = false := by simpa using h0
    have b1 : decide (n > (V : Int)) = false := by simpa using h1
    have b2 : decide (most < 0) = false := by simpa using h2
    have b3 : decide (most > 262144) = false := by simpa using h3
    have HG := Lib.hid (show goodA V cs n most = true by unfold goodA; rw [HR.out]; simp; omega)
    obtain ⟨n, rfl⟩ : ∃ k : Nat, n = (k : Int) := ⟨n.toNat, by omega⟩
    obtain ⟨most, rfl⟩ : ∃ k : Nat, most = (k : Int) := ⟨most.toNat, by omega⟩
    have hnV : n ≤ V := by omega
    have hmo : most ≤ 262144 := by omega
    have hV := (rightF_len HR.out).2.1
    clear h0 h1 h2 h3
    go_wp2_with fail
    refine (newEngine_calls H1.out (fun w Qs hw hP => HF.out w Qs hw fun P h => hP P (List.mem_cons_of_mem _ h)) HR.out HS.out).mono ?_
    rintro e w2 ⟨p, CV, L, tr, bad, rfl, h2, hni⟩
    have H2 := Lib.hid h2
    have HNI := Lib.hid hni
    clear h2 hni c0 c1 cl H1 b0 b1 b2 b3
    go_wp2_with fail
    refine (start_calls H2.out HNI.out HR.out HS.out).mono ?_
    rintro e w3 ⟨b, CV', L', tr', dn', D', bad', rfl, h3, hno, hyes⟩
    obtain ⟨F, hFF⟩ : ∃ F, firsts n (Sols V cs) = F := ⟨_, rfl⟩
    have HFF := Lib.hid hFF
    have hst : AllInv W (Hp.blk fb (.cells #[.int .i64 (V : Int), .slice a cs.length c] 24 (0, 0)) :: Ps) V cs n p F [] (.slice none 0 0) b w3 := by
      refine ⟨CV', L', tr', dn', D', bad', ?_, fun hb => ?_, fun hb => ?_⟩
      · exact ((h3.bunNil).nilRow 25 1).ord 3 [2, 0, 1]
      · rw [← hFF, hno hb]; rfl
      · obtain ⟨e1, e2, U, cl0, hB, hf, hl⟩ := hyes hb
        exact ⟨e1, e2, U, cl0, hB, hf, by rw [hl, ← hFF]; rfl⟩
    have HST := Lib.hid hst
    clear h3 hno hyes hst H2 hFF
    go_wp2
    go_loopg [8, 10] F.length (fun gg z8 z10 wr => ∃ (OV : List (Value × List Bool)) (b : Bool), F.length - OV.length ≤ gg ∧ OV.length ≤ most ∧ z10 = .bool b ∧ Hid (AllInv W (Hp.blk fb (.cells #[.int .i64 (V : Int), .slice a cs.length c] 24 (0, 0)) :: Ps) V cs n p F OV z8 b wr))
    case atStart => exact ⟨[], b, by simp, by simp, rfl, HST⟩
    case round =>
      obtain ⟨OV, b, hg, hle, rfl, HI⟩ := hrel
      clear HST
      obtain ⟨CV, L, tr, dn, D, bad, h, hno, hyes⟩ := HI.out
      cases b with
      | false =>
        have HE := Lib.hid (hno rfl)
        have H := Lib.hid h
        clear h hno hyes HI
        go_wp2
        go_ret2
        refine .inr (.inr ⟨HG.out, OV, _, by rw [HE.out, ← HFF.out]; rfl, hle, rfl, ?_⟩)
        exact (((H.out.drop).bring 2).drop)
      | true =>
        obtain ⟨rfl, rfl, U, cl0, hB, hf, hFe⟩ := hyes rfl
        have hh := hf.firsts hB n
        have HFe := Lib.hid hFe
        have HH := Lib.hid hh
        have HB := Lib.hid hB
        have HFO := Lib.hid hf
        have H := Lib.hid h
        obtain ⟨oa, oc, rfl, _, _⟩ := owns_form2 (h.bring 1).row
        obtain ⟨m, hm⟩ : ∃ m, OV.length = m := ⟨_, rfl⟩
        have hfl : m < F.length := by
          rw [hFe, hh]; simp; omega
        rw [hm] at hg hle ⊢
        clear h hno hyes HI hB hf hFe hh
        by_cases hmm : most ≤ m
        · have b1 : decide ((m : Int) ≥ (most : Int)) = true := by simp; omega
          go_wp2
          go_ret2
          exact .inr (.inl ⟨HG.out, by rw [show firsts ((n : Int).toNat) (Sols V cs) = F from HFF.out]; show most < F.length; omega, rfl, ((((H.out.drop).drop).drop).drop)⟩)
        · have b1 : decide ((m : Int) ≥ (most : Int)) = false := by simp; omega
          go_wp2_with fail
          refine (first_calls H.out hV hnV).mono ?_
          rintro e w4 ⟨v, rfl, h4⟩
          have htl : ((asg V tr).take n).length = n := by rw [List.length_take, asg_length]; omega
          obtain ⟨va, vc, rfl, _, _⟩ := owns_form2 h4.row
          have HTL := Lib.hid htl
          have hmaxl : (300001 : Nat) ≤ maxLen := by decide
          have HLY := Lib.hid (show m + 1 ≤ maxLen ∧ (m + 1) * 24 ≤ 140737488355328 from by omega)
          rw [hm] at h4
          have H4 := Lib.hid (h4.ord 3 [2, 0, 1])
          have HM := Lib.hid hm
          clear h4 htl hmaxl hm H b1
          go_wp2_with (at_builtin; refine append_has (W := W) (size := 1) (bytes := 24) (z := .slice none 0 0) (e := 25) (n := m) (xs := OV.map (·.1)) (news := [.slice va n vc]) rfl rfl Try.underlying34 (by kernel_rfl) rfl (by decide) rfl rfl (H4.out.step (by (repeat first | exact Fr.refl _ _ | assumption | apply Fr.n | apply Fr.d | apply Fr.a | refine Fr.s ?_ (.inr (by simp; try omega)) _))) (by (repeat first | rw [if_pos (by omega)] | rw [if_neg (by omega)] | rw [hp_drew] | rw [hp_drewN] | rw [hp_alloc_size] | rw [hp_setCell_size] | rw [hp_alloc] | rw [hp_setCell] | rw [oMS] | rw [upd_cells] | rw [lSZ] | rw [lSS] | rfl)) rfl (by simp [Value.oneCell']) HLY.out.1 HLY.out.2 ?_)
          intro g2 cap2 w5 h5 hf5 hg5
          have h6 := h5.ord 4 [2, 0, 1, 3]
          have h7 : Has W w5 (Hp.row 4 1 (.slice va n vc) n (bv ((asg V tr).take n)) :: bun (OV.map rowB) :: engR p V CV L tr tr.length D false :: Hp.row 25 1 (.slice (some ⟨g2, 0, none⟩) (m + 1) cap2) (m + 1) (OV.map (·.1) ++ [.slice va n vc]) :: Hp.blk fb (.cells #[.int .i64 (V : Int), .slice a cs.length c] 24 (0, 0)) :: Ps) := h5.ord 4 [1, 3, 2, 0]
          have h8 := Has.layNew (R := rowB) (l := OV) (b := (.slice va n vc, (asg V tr).take n)) (by
            have h9 := h7
            rw [show (Hp.row 4 1 (.slice va n vc) n (bv ((asg V tr).take n))) = rowB (.slice va n vc, (asg V tr).take n) from by unfold rowB; rw [HTL.out]] at h9
            exact h9)
          have h10 := h8.ord 3 [1, 2, 0]
          have H5 := Lib.hid h10
          clear h5 hf5 hg5 h6 h7 h8 h10 H4
          go_wp2_with fail
          refine (turn_calls H5.out HFO.out.1.b.htr hV (dok_of HFO.out.1.b.s HFO.out.1.b.htr) (by omega)).mono ?_
          rintro e w6 ⟨rfl, h6⟩
          have hOV : (OV ++ [(Value.slice va n vc, (asg V tr).take n)]).length = m + 1 := by rw [List.length_append, HM.out]; rfl
          have HOV := Lib.hid hOV
          clear hOV H5
          cases ht : turnF n D with
          | none =>
            rw [ht] at h6
            have hI : AllInv W (Hp.blk fb (.cells #[.int .i64 (V : Int), .slice a cs.length c] 24 (0, 0)) :: Ps) V cs n p F (OV ++ [(Value.slice va n vc, (asg V tr).take n)]) (.slice (some ⟨g2, 0, none⟩) (m + 1) cap2) false w6 := by
              refine ⟨CV, L, turnT n D tr, turnN n D tr.length, [], false, ?_, fun _ => ?_, fun e => by cases e⟩
              · rw [HOV.out, List.map_append]
                exact h6
              · have h7 := HH.out
                rw [ht] at h7
                rw [HFe.out, h7, List.map_append]
                rfl
            have HI2 := Lib.hid hI
            clear h6 hI ht
            go_wp2
            go_roundg (F.length - (m + 1))
            case measure => omega
            case rel => exact ⟨_, false, by rw [HOV.out]; exact Nat.le_refl _, by rw [HOV.out]; omega, rfl, HI2⟩
          | some D' =>
            rw [ht] at h6
            have H6 := Lib.hid h6
            have HT := Lib.hid ht
            clear h6 ht
            go_wp2_with fail
            refine (again_calls hV HB.out HFO.out HT.out H6.out).mono ?_
            rintro e w7 ⟨b, CV2, L2, tr2, dn2, D2, rfl, h7, hno, hyes⟩
            have h8 := HH.out
            rw [HT.out] at h8
            simp only [] at h8
            have hI : AllInv W (Hp.blk fb (.cells #[.int .i64 (V : Int), .slice a cs.length c] 24 (0, 0)) :: Ps) V cs n p F (OV ++ [(Value.slice va n vc, (asg V tr).take n)]) (.slice (some ⟨g2, 0, none⟩) (m + 1) cap2) b w7 := by
              refine ⟨CV2, L2, tr2, dn2, D2, false, ?_, fun hb => ?_, fun hb => ?_⟩
              · rw [HOV.out, List.map_append]
                exact h7
              · rw [HFe.out, h8, hno hb, List.map_append]
                rfl
              · obtain ⟨e1, e2, e3⟩ := hyes hb
                refine ⟨rfl, e1, U, cl0, HB.out, e2, ?_⟩
                rw [HFe.out, h8, e3, List.map_append, List.append_assoc]
                rfl
            have HI2 := Lib.hid hI
            clear h7 hno hyes h8 hI H6
            go_wp2
            go_roundg (F.length - (m + 1))
            case measure => omega
            case rel => exact ⟨_, b, by rw [HOV.out]; exact Nat.le_refl _, by rw [HOV.out]; omega, rfl, HI2⟩
end Go.Proofs.Ytjidldfnlejdhaa
end

section
/- solve: a formula with known heads of its clauses, and one that has grown. -/
namespace Go.Proofs.Ytjidldfnlejdhaa
open Go Go.RowKit Go.Proofs.Rg Go.Proofs.Mp Go.Proofs.Hp Go.Proofs.Sv
set_option linter.unusedVariables false
set_option linter.unusedSimpArgs false
theorem has_mem {W w : World} {Qs : List Res} {P : Res} (h : Has W w Qs) (hP : P ∈ Qs) : ∃ Q, Has W w (P :: Q) := by
  obtain ⟨q1, q2, rfl⟩ := List.append_of_mem hP
  exact ⟨q1 ++ q2, h.perm List.perm_middle⟩
/-- a formula whose clauses' heads are known, wherever some things are -/
def FormHs (W : World) (Ps : List Res) (a : Option Addr) (c : Nat) (vs : List Value) (cs : List (List Int)) : Prop :=
  (∀ w Qs, Has W w Qs → (∀ P ∈ Ps, P ∈ Qs) → Reads w (.slice a cs.length c) cs.length 1 vs ∧ ∀ (i : Nat) (r : List Int), cs[i]? = some r → ∃ u, vs[i]? = some u ∧ IntsAt w u r) ∧
  cs.length ≤ 9223372036854775807 ∧ ∀ r ∈ cs, r.length ≤ 9223372036854775807
theorem FormHs.src {W : World} {Ps : List Res} {a : Option Addr} {c : Nat} {vs : List Value} {cs : List (List Int)} (h : FormHs W Ps a c vs cs) : FormSrc W Ps a c cs :=
  fun w Qs hw hP => ⟨⟨vs, h.1 w Qs hw hP⟩, h.2⟩
theorem FormHs.base {W : World} {Ps : List Res} {a : Option Addr} {c : Nat} {cs : List (List Int)} (h : FormAt W a c cs) : ∃ vs, FormHs W Ps a c vs cs := by
  obtain ⟨⟨vs, h1, h2⟩, h3⟩ := h
  refine ⟨vs, fun w Qs hw _ => ⟨h1.fr hw.fr, fun i r hi => ?_⟩, h3⟩
  obtain ⟨u, hu, hr⟩ := h2 i r hi
  exact ⟨u, hu, hr.fr hw.fr⟩
theorem FormHs.grown {W : World} {Ps : List Res} {a a' : Option Addr} {c c' k : Nat} {vs : List Value} {cs : List (List Int)} (h : FormHs W Ps a c vs cs) {OV : List (Value × List Int)} (hk : k = cs.length + OV.length) (hk6 : k ≤ 9223372036854775807)
    (hl : ∀ q ∈ OV, q.2.length ≤ 9223372036854775807) :
    FormHs W (Hp.row 51 1 (.slice a' k c') k (vs ++ OV.map (·.1)) :: bun (OV.map rowC) :: Ps) a' c' (vs ++ OV.map (·.1)) (cs ++ OV.map (·.2)) := by
  have hlen : (cs ++ OV.map (·.2)).length = k := by rw [List.length_append, List.length_map, hk]
  refine ⟨fun w Qs hw hP => ?_, by rw [hlen]; exact hk6, fun r hr => ?_⟩
  · rw [hlen]
    obtain ⟨Q1, h1⟩ := has_mem hw (hP (Hp.row 51 1 (.slice a' k c') k (vs ++ OV.map (·.1))) (by simp))
    obtain ⟨Q2, h2⟩ := has_mem hw (hP (bun (OV.map rowC)) (by simp))
    obtain ⟨h3, h4⟩ := h.1 w Qs hw fun P hp => hP P (by simp [hp])
    refine ⟨h1.rowReads, fun i r hi => ?_⟩
    have hvl : vs.length = cs.length := by have := h3.1; omega
    by_cases hic : i < cs.length
    · rw [List.getElem?_append_left hic] at hi
      obtain ⟨u, hu, hr⟩ := h4 i r hi
      exact ⟨u, by rw [List.getElem?_append_left (by omega)]; exact hu, hr⟩
    · rw [List.getElem?_append_right (by omega), List.getElem?_map] at hi
      obtain ⟨q, hq, rfl⟩ := Option.map_eq_some_iff.1 hi
      refine ⟨q.1, by rw [List.getElem?_append_right (by omega), List.getElem?_map, hvl, hq]; rfl, ?_⟩
      obtain ⟨Q3, h5⟩ := has_mem h2.unbun (P := rowC q) (List.mem_append_left _ (List.mem_map_of_mem (List.mem_of_getElem? hq)))
      exact h5.rowReads
  · rcases List.mem_append.1 hr with hr | hr
    · exact h.2.2 r hr
    · obtain ⟨q, hq, rfl⟩ := List.mem_map.1 hr
      exact hl q hq
end Go.Proofs.Ytjidldfnlejdhaa
end
