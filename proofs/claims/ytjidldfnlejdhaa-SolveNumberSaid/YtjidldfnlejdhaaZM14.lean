/- Own texts of this claim, part 15: no condition. -/
import Derived.Deep.DeepCutAuto
import Derived.Test.YtjidldfnlejdhaaZM13
import Derived.Test.YtjidldfnlejdhaaZM2
set_option linter.unusedVariables false
set_option linter.unusedSimpArgs false
section
/- solve: the clauses that watch a literal are visited. -/
namespace Go.Proofs.Ytjidldfnlejdhaa
open Go Go.RowKit Go.Proofs.Rg Go.Proofs.Mp Go.Proofs.Hp Go.Proofs.Sv
set_option linter.unusedVariables false
set_option linter.unusedSimpArgs false
theorem wt_len {cl : List (List Int)} {wt : Int → List Nat} (h : WtOk cl wt) (x : Int) : (wt x).length ≤ cl.length := by
  have h1 := pigeon (n := cl.length) (l := (wt x).map (· + 1)) ((h x).1.map _ (fun a b hab e => hab (by omega))) fun y hy => by
    obtain ⟨k, hk, rfl⟩ := List.mem_map.1 hy
    obtain ⟨c, hc, _⟩ := ((h x).2 k).1 hk
    have := (List.getElem?_eq_some_iff.1 hc).1
    omega
  simpa using h1
theorem wl_upd (L : List (Int × (Value × List Nat))) (x : Int) (v : Value) (l : List Nat) : wl (put L x (v, l)) = upd (wl L) x l := by
  funext j
  rw [wl_put]; rfl
/-- the things of visit -/
def visL (eb p V : Nat) (CV : List (Value × List Int)) (L : List (Int × (Value × List Nat))) (x : Int) (mb : Nat) (cv vv tv dv : Value) (tr : List Int) (dn : Nat) (D : List Dec) (bad : Bool) (ov : Value) (n : Nat) (buf : List Nat) : List Res :=
  [blk eb (.cells #[.pointer (some ⟨p, 0, none⟩)] 52 (0, 0)),
   blk p (.cells #[cv, .map (some mb), vv, tv, .int .i64 (dn : Int), dv, .bool bad] 80 (0, 0)),
   Hp.row 83 1 vv (V + 1) (vals V tr), Hp.row 3 1 tv tr.length (iv tr),
   Hp.row 51 1 cv CV.length (CV.map (·.1)), bun (CV.map rowC), mapT mb (fun n : Int => Value.int .i64 n) (fun q : Value × List Nat => q.1) L, bun ((out L x).map (rowI 3)),
   Hp.row 3 1 ov n (nv buf), Hp.row 88 3 dv D.length (dcs D)]
/-- the things of a round: the clause stands apart -/
def visM (eb p V : Nat) (cval : Value) (c : List Int) (Es : List (Value × List Int)) (hs : List Value) (L : List (Int × (Value × List Nat))) (x : Int) (mb : Nat) (cv vv tv dv : Value) (tr : List Int) (dn : Nat) (D : List Dec) (bad : Bool) (ov : Value) (n : Nat) (buf : List Nat) : List Res :=
  [Hp.row 3 1 cval c.length (iv c), bun (Es.map rowC), blk eb (.cells #[.pointer (some ⟨p, 0, none⟩)] 52 (0, 0)),
   blk p (.cells #[cv, .map (some mb), vv, tv, .int .i64 (dn : Int), dv, .bool bad] 80 (0, 0)),
   Hp.row 83 1 vv (V + 1) (vals V tr), Hp.row 3 1 tv tr.length (iv tr),
   Hp.row 51 1 cv hs.length hs, mapT mb (fun n : Int => Value.int .i64 n) (fun q : Value × List Nat => q.1) L, bun ((out L x).map (rowI 3)),
   Hp.row 3 1 ov n (nv buf), Hp.row 88 3 dv D.length (dcs D)]
theorem set_fst {CV : List (Value × List Int)} {k : Nat} {v : Value} {c c' : List Int} (h : CV[k]? = some (v, c)) : (CV.set k (v, c')).map (·.1) = CV.map (·.1) := by
  rw [List.map_set]
  apply List.ext_getElem?
  intro i
  rw [List.getElem?_set]
  by_cases e : k = i
  · subst e
    have hl := (List.getElem?_eq_some_iff.1 h).1
    have e := (List.getElem?_eq_some_iff.1 h).2
    simp [hl, e]
  · rw [if_neg e]
theorem vis_pick {W w : World} {Ps : List Res} {eb p V : Nat} {CV : List (Value × List Int)} {L : List (Int × (Value × List Nat))} {x : Int} {mb : Nat} {cv vv tv dv : Value} {tr : List Int} {dn : Nat} {D : List Dec} {bad : Bool} {ov : Value} {n : Nat} {buf : List Nat} {k : Nat} {cval : Value} {c : List Int} (hk : CV[k]? = some (cval, c))
    (h : Has W w (visL eb p V CV L x mb cv vv tv dv tr dn D bad ov n buf ++ Ps)) : Has W w (visM eb p V cval c (CV.eraseIdx k) (CV.map (·.1)) L x mb cv vv tv dv tr dn D bad ov n buf ++ Ps) := by
  have h1 := ((h.bring 5).pick hk)
  unfold visM
  rw [List.length_map]
  exact h1
theorem vis_lay {W w : World} {Ps : List Res} {eb p V : Nat} {CV : List (Value × List Int)} {L : List (Int × (Value × List Nat))} {x : Int} {mb : Nat} {cv vv tv dv : Value} {tr : List Int} {dn : Nat} {D : List Dec} {bad : Bool} {ov : Value} {n : Nat} {buf : List Nat} {k : Nat} {cval : Value} {c c' : List Int} (hk : CV[k]? = some (cval, c))
    (h : Has W w (visM eb p V cval c' (CV.eraseIdx k) (CV.map (·.1)) L x mb cv vv tv dv tr dn D bad ov n buf ++ Ps)) : Has W w (visL eb p V (CV.set k (cval, c')) L x mb cv vv tv dv tr dn D bad ov n buf ++ Ps) := by
  have h1 := (Has.lay (l := CV) (k := k) (b := (cval, c')) (R := rowC) h (List.getElem?_eq_some_iff.1 hk).1).sink 5
  unfold visL
  rw [set_fst hk, List.length_set]
  simp only [List.length_map] at h1
  exact h1
def VisPost (W : World) (Ps : List Res) (V : Nat) (G : Int → Prop) (cl0 Cs : List (List Int)) (p : Nat) (tr : List Int) (dn : Nat) (D : List Dec) (bad : Bool) (e : Ending) (w' : World) : Prop :=
  ∃ ok CV' L' tr', e = .returned (.bool ok) ∧ Has W w' (engR p V CV' L' tr' dn D bad :: Ps) ∧ tr <+: tr' ∧ (ok = true → Core V G cl0 Cs (CV'.map (·.2)) (wl L') tr' (dn + 1)) ∧ (ok = false → Conf V G cl0 Cs (CV'.map (·.2)) (wl L') tr')
/-- visit's loop before the number i of the list -/
def VisInv (W : World) (Ps : List Res) (V : Nat) (G : Int → Prop) (cl0 Cs : List (List Int)) (eb p : Nat) (tr : List Int) (dn : Nat) (D : List Dec) (bad : Bool) (x : Int) (old : List Nat) (mb : Nat) (cv vv dv : Value) (oa : Option Addr) (oc n : Nat) (wr : World) (i : Nat) (kp : List Nat) : Prop :=
  ∃ CV' L' tv' tr' buf, kp.length ≤ i ∧ (buf.length = n ∧ buf.take kp.length = kp ∧ buf.drop i = old.drop i) ∧ VI V G cl0 Cs (tr.take dn) tr x ⟨CV'.map (·.2), wl L', tr', kp⟩ (old.drop i) ∧
    Has W wr (visL eb p V CV' L' x mb cv vv tv' dv tr' dn D bad (.slice oa n oc) n buf ++ Ps)
set_option maxHeartbeats 16000000 in
set_option maxRecDepth 100000 in
theorem visit_calls {W w : World} {Ps : List Res} {p V : Nat} {CV : List (Value × List Int)} {L : List (Int × (Value × List Nat))} {tr : List Int} {dn : Nat} {D : List Dec} {bad : Bool} (h : Has W w (engR p V CV L tr dn D bad :: Ps)) (hV : V ≤ 65536)
    {G : Int → Prop} {cl0 Cs : List (List Int)} (hcore : Core V G cl0 Cs (CV.map (·.2)) (wl L) tr dn) {x : Int} (hx : tr[dn]? = some (-x)) (hG : Unit G cl0) (hS : cl0.length ≤ 300000 ∧ ∀ c ∈ cl0, c.length ≤ 1000000) :
    Calls Try.prog 74 #[.pointer (some ⟨p, 0, none⟩), .int .i64 x] w (VisPost W Ps V G cl0 Cs p tr dn D bad) := by
  obtain ⟨mb, cv, vv, tv, dv, h⟩ := eng_open h
  simp only [engL, List.cons_append, List.nil_append] at h
  have h1 := (((h.bring 4).pickKey x).newBlk (.cells #[.pointer (some ⟨p, 0, none⟩)] 52 (0, 0))).ord 10 [0, 3, 7, 8, 4, 5, 6, 2, 1, 9]
  simp only [List.filterMap_cons, List.filterMap_nil, List.getElem?_cons_zero, List.getElem?_cons_succ, List.drop_succ_cons, List.drop_zero, List.cons_append, List.nil_append, List.take_succ_cons, List.take_zero, List.eraseIdx_cons_succ, List.eraseIdx_zero, List.eraseIdx_cons_zero, List.tail_cons, Option.toList_some] at h1
  obtain ⟨oa, oc, hov, hon, hoa⟩ := owns_form2 (h1.bring 8).row
  rw [hov] at h1
  obtain ⟨n, hn⟩ : ∃ n, (wl L x).length = n := ⟨_, rfl⟩
  rw [hn] at h1 hov hon
  have hwl := wt_len hcore.hwt x
  have hn6 : n ≤ 300000 := by
    have h2 := hcore.hperm.1
    simp only [List.length_map] at h2 hwl
    have h3 := hS.1
    omega
  have H0 := Lib.hid (show Has W (w.alloc (.cells #[.pointer (some ⟨p, 0, none⟩)] 52 (0, 0))) (visL w.heap.size p V CV L x mb cv vv tv dv tr dn D bad (.slice oa n oc) n (wl L x) ++ Ps) from h1)
  have HM := Lib.hid (h.bring 3).map
  have hb := h.blk
  have c1 : _ = some _ := heap_eq_cell hb 1
  have cl := lt_of_block hb
  have HC := Lib.hid hcore
  have HX := Lib.hid hx
  have HG := Lib.hid hG
  have HS := Lib.hid hS
  have HN := Lib.hid hn
  have HOA := Lib.hid hoa
  have HON := Lib.hid hon
  have hml := HM.out.lt
  clear h h1 hb hcore hx hG hS hn hoa hon hwl
  go_enter Try.func74, Try.ntmps74
  go_wp2_with (at_lookup; refine wpList_lookup_wv (f := fun n : Int => Value.int .i64 n) (L := L) (k := x) rfl rfl rfl rfl (HM.out.of_block (heap_alloc_else _ _ _ hml)) Try.underlying76 keysI (by kernel_rfl) ?_; rw [hov])
  clear c1 cl hml HM
  obtain ⟨eb, heb⟩ : ∃ b, w.heap.size = b := ⟨_, rfl⟩
  rw [heb] at H0 ⊢
  clear heb
  obtain ⟨old, hold⟩ : ∃ l, wl L x = l := ⟨_, rfl⟩
  go_loopg [6, 21] n (fun gg z6 z21 wr => ∃ (i : Nat) (kp : List Nat), i ≤ n ∧ n - i ≤ gg ∧ z6 = .slice oa kp.length oc ∧ z21 = .int .i64 (i : Int) ∧ Hid (VisInv W Ps V G cl0 Cs eb p tr dn D bad x old mb cv vv dv oa oc n wr i kp))
  case atStart =>
    refine ⟨0, [], Nat.zero_le _, by omega, rfl, rfl, Lib.hid ⟨CV, L, tv, tr, wl L x, Nat.le_refl _, ⟨HN.out, rfl, by rw [hold]⟩, ?_, H0.out⟩⟩
    rw [← hold]
    exact HC.out.start
  case round =>
    obtain ⟨i, kp, hi, hgg, rfl, rfl, HI⟩ := hrel
    clear H0
    obtain ⟨CV', L', tv', tr', buf, hk, hbuf, hVI, hH⟩ := HI.out
    by_cases hin : i < n
    · obtain ⟨g, rfl⟩ : ∃ g, oa = some ⟨g, 0, none⟩ := by
        cases oa with
        | none => have := (HON.out rfl).1; omega
        | some ad => obtain ⟨g, rfl⟩ := HOA.out ad rfl; exact ⟨g, rfl⟩
      have holdl : old.length = n := by rw [← hold]; exact HN.out
      obtain ⟨k, hk0⟩ : ∃ k, old[i]? = some k := ⟨_, List.getElem?_eq_getElem (by omega)⟩
      have hdrop : old.drop i = k :: old.drop (i + 1) := by
        obtain ⟨h1, h2⟩ := List.getElem?_eq_some_iff.1 hk0
        rw [List.drop_eq_getElem_cons h1, h2]
      have hbk : buf[i]? = some k := by
        have h1 := congrArg (fun z : List Nat => z[0]?) hbuf.2.2
        simp only [List.getElem?_drop, Nat.add_zero] at h1
        rw [h1]; exact hk0
      rw [hdrop] at hVI
      obtain ⟨c, hc, hcx, hc2, hcn⟩ := hVI.here
      obtain ⟨cval, hp⟩ : ∃ cval, CV'[k]? = some (cval, c) := by
        simp only [List.getElem?_map] at hc
        obtain ⟨⟨q, c1⟩, h1, h2⟩ := Option.map_eq_some_iff.1 hc
        simp only at h2
        subst h2
        exact ⟨q, h1⟩
      have hM := vis_pick hp hH
      have hcl := hVI.cl c (List.mem_of_getElem? hc)
      obtain ⟨c0, hc0, hpm⟩ := hVI.perm.mem (List.mem_of_getElem? hc)
      have hclen : c.length ≤ 1000000 := by rw [hpm.length_eq]; exact HS.out.2 c0 hc0
      obtain ⟨ca, cc, rfl, hcn0, hca⟩ := owns_form2 hM.row
      obtain ⟨ck, rfl⟩ : ∃ ck, ca = some ⟨ck, 0, none⟩ := by
        cases ca with
        | none => have := (hcn0 rfl).1; omega
        | some ad => obtain ⟨q, rfl⟩ := hca ad rfl; exact ⟨q, rfl⟩
      have hkl : k < CV'.length := (List.getElem?_eq_some_iff.1 hp).1
      have hhd := (hM.bring 6).row
      obtain ⟨ha, hc9, hcv, hh0, hh1⟩ := owns_form2 hhd
      subst hcv
      obtain ⟨hg, rfl⟩ : ∃ hg, ha = some ⟨hg, 0, none⟩ := by
        cases ha with
        | none => have := (hh0 rfl).1; simp at this; rw [this] at hkl; simp at hkl
        | some ad => obtain ⟨q, rfl⟩ := hh1 ad rfl; exact ⟨q, rfl⟩
      obtain ⟨m, hm⟩ : ∃ m, (CV'.map (·.1)).length = m := ⟨_, rfl⟩
      rw [hm] at hM hhd
      have hkm : k < m := by rw [← hm]; simpa using hkl
      have hm6 : m ≤ 300000 := by
        have h1 := hVI.perm.1
        have h2 := HS.out.1
        simp only [List.length_map] at h1 hm
        omega
      have hkc := owns_cell hhd rfl (j := k) (u := .slice (some ⟨ck, 0, none⟩) c.length cc) (by simp [hp])
      have hhl := owns_lt hhd rfl
      obtain ⟨a0, ha0⟩ : ∃ a, c[0]? = some a := ⟨_, List.getElem?_eq_getElem (by omega)⟩
      obtain ⟨a1, ha1⟩ : ∃ a, c[1]? = some a := ⟨_, List.getElem?_eq_getElem (by omega)⟩
      have hr0 := owns_cell hM.row rfl (iv_get ha0)
      have hr1 := owns_cell hM.row rfl (iv_get ha1)
      have hrz0 := owns_frozen hM.row rfl 0
      have hrz1 := owns_frozen hM.row rfl 1
      have hrl := owns_lt hM.row rfl
      have hog := (hM.bring 9).row
      have hoi := owns_cell hog rfl (nv_get hbk)
      have hol := owns_lt hog rfl
      have hb := (hM.bring 3).blk
      have c0' : _ = some _ := heap_eq_cell hb 0
      have cl := lt_of_block hb
      have hb0 := (hM.bring 2).blk
      have e0 : _ = some _ := heap_eq_cell hb0 0
      have el := lt_of_block hb0
      have HVI := Lib.hid hVI
      have HMM := Lib.hid hM
      have HP := Lib.hid (And.intro hp (And.intro hc (And.intro hcx (And.intro hc2 hcn))))
      have HB := Lib.hid (And.intro hk hbuf)
      have HCL := Lib.hid hcl
      have HMH := Lib.hid hm
      have HA := Lib.hid (And.intro ha0 ha1)
      have hdr := Lib.hid (And.intro hdrop (And.intro hbk hold))
      clear hVI hM hp hc hcx hcn hk hbuf hcl hm hH HI hdrop hbk hold hog hhd hb hb0 hk0 hc0 hpm hcn0 hca hh0 hh1 ha0 ha1 HON HOA HN holdl
      go_upto_if 37 with fail
      go_cut [9] (fun s9 wx => s9 = .slice (some ⟨ck, 0, none⟩) c.length cc ∧ Hid (Has W wx (visM eb p V (.slice (some ⟨ck, 0, none⟩) c.length cc) (second x c) (CV'.eraseIdx k) (CV'.map (·.1)) L' x mb (.slice (some ⟨hg, 0, none⟩) m hc9) vv tv' dv tr' dn D bad (.slice (some ⟨g, 0, none⟩) n oc) n buf ++ Ps)))
      case first =>
        obtain ⟨b, hb⟩ : ∃ b, (a0 == x) = b := ⟨_, rfl⟩
        have hgd : c.getD 0 0 = a0 := by rw [List.getD_eq_getElem?_getD, HA.out.1]; rfl
        cases b with
        | true =>
          have hax : a0 = x := by simpa using hb
          go_wp2
          (refine wp_region_text (by kernel_rfl) (by kernel_rfl) ?_)
          go_wp2
          refine Strict.intro rfl ?_
          go_wp2
          go_meet
          refine ⟨rfl, Lib.hid ?_⟩
          rw [second_sw (by rw [hgd]; exact hax)]
          have h2 := (Has.rowSet (j := 1) (Has.rowSet (j := 0) HMM.out (by rw [iv_length]; omega) (.int .i64 a1)) (by rw [List.length_set, iv_length]; omega) (.int .i64 x))
          rw [iv_set, iv_set] at h2
          have hgd1 : c.getD 1 0 = a1 := by rw [List.getD_eq_getElem?_getD, HA.out.2]; rfl
          unfold visM
          rw [swp_length]
          unfold swp
          rw [hgd, hgd1, hax]
          exact h2.step (by (repeat first | exact Fr.refl _ _ | assumption | apply Fr.n | apply Fr.d | apply Fr.a | refine Fr.s ?_ (.inr (by simp; try omega)) _))
        | false =>
          have hax : a0 ≠ x := by simpa using hb
          go_wp2
          go_meet
          refine ⟨rfl, Lib.hid ?_⟩
          rw [second_id (by rw [hgd]; exact hax)]
          exact HMM.out
      case rest =>
        obtain ⟨rfl, HM2⟩ := hcut
        clear HMM hkc hhl hr0 hr1 hrz0 hrz1 hrl hoi hol c0' cl e0 el HA
        obtain ⟨hp, hc, hcx, hcc2, hcn⟩ := HP.out
        obtain ⟨hpm, hs1, _⟩ := second_spec hcc2 hcx hcn
        have hcv := HVI.out
        obtain ⟨c', hcd⟩ : ∃ c', second x c = c' := ⟨_, rfl⟩
        rw [hcd] at HM2 hpm hs1
        have hlen : c'.length = c.length := hpm.length_eq
        rw [← hlen] at HM2 hclen hc2 hp ⊢
        obtain ⟨a, ha⟩ : ∃ a, c'[0]? = some a := ⟨_, List.getElem?_eq_getElem (by omega)⟩
        have hga : c'.getD 0 0 = a := by rw [List.getD_eq_getElem?_getD, ha]; rfl
        have hal := HCL.out.2.2 a (hpm.mem_iff.1 (List.mem_of_getElem? ha))
        have htr := hcv.tr
        have h := HM2.out
        have hr := h.row
        have r0 := owns_cell hr rfl (iv_get ha)
        have rl := owns_lt hr rfl
        have hb := (h.bring 3).blk
        have cl := lt_of_block hb
        have hb0 := (h.bring 2).blk
        have e0 : _ = some _ := heap_eq_cell hb0 0
        have el := lt_of_block hb0
        have hof : OfAt wc p V tr' := by
          have h5 := (h.bring 4).row
          obtain ⟨va, vc, hvv, hv0, hv1⟩ := owns_form2 h5
          obtain ⟨vg, rfl⟩ : ∃ vg, va = some ⟨vg, 0, none⟩ := by
            cases va with
            | none => have := (hv0 rfl).1; omega
            | some ad => obtain ⟨q, rfl⟩ := hv1 ad rfl; exact ⟨q, rfl⟩
          rw [hvv] at h5 hb
          exact ⟨cl, vg, vc, owns_lt h5 rfl, heap_eq_cell hb 2, fun v hv => owns_cell h5 rfl (vals_get hv)⟩
        have HOF := Lib.hid hof
        have HT := Lib.hid htr
        have HR := Lib.hid (And.intro hp (And.intro hc (And.intro hpm (And.intro hs1 (And.intro ha (And.intro hga hcd))))))
        have HAL := Lib.hid hal
        clear hp hc hcx hcn hpm hs1 hcv hcd ha hga hal htr h hr hb hb0 hof hlen hcc2
        obtain ⟨lc, hlc⟩ : ∃ lc, lv tr' a = lc := ⟨_, rfl⟩
        have HLC := Lib.hid hlc
        by_cases hA : lc = 1
        · subst hA
          go_wp2
          (refine wp_region_text (by kernel_rfl) (by kernel_rfl) ?_)
          go_wp2_with fail
          refine (of_calls (HOF.out.fr (by (repeat first | exact Fr.refl _ _ | assumption | apply Fr.n | apply Fr.d | apply Fr.a | refine Fr.s ?_ (.inr (by simp; try omega)) _))) HT.out HAL.out.1 HAL.out.2 (by omega)).mono ?_
          rw [hlc]
          rintro e w2 ⟨rfl, rfl⟩
          clear hlc
          go_wp2
          refine Strict.intro rfl ?_
          go_wp2_with (at_builtin; refine inner1_has (W := W) (bytes := 8) (z := .int .i64 0) (e := 3) (g := g) (n := n) (cap := oc) (j := kp.length) (y := .int .i64 (k : Int)) (fr := (0, 0)) rfl rfl Try.underlying51 (by kernel_rfl) rfl rfl ((HM2.out.bring 9).step (by (repeat first | exact Fr.refl _ _ | assumption | apply Fr.n | apply Fr.d | apply Fr.a | refine Fr.s ?_ (.inr (by simp; try omega)) _))) (by (repeat first | rw [if_pos (by omega)] | rw [if_neg (by omega)] | rw [hp_drew] | rw [hp_drewN] | rw [hp_alloc_size] | rw [hp_setCell_size] | rw [hp_alloc] | rw [hp_setCell] | rw [oMS] | rw [upd_cells] | rw [lSZ] | rw [lSS] | rfl)) rfl ?k1 ?_)
          case k1 => have := HB.out.1; omega
          intro w9 h9 hf9 hs9
          have H9 := Lib.hid h9
          clear h9
          have hvs := (vstep_inv HVI.out (List.mem_of_getElem? HX.out) (fun y hy => List.mem_of_mem_take hy) (fun P hP y hy => (HC.out.hpcs P hP).subset hy) HG.out)
          rw [vstep_true HR.out.2.1 (by rw [HR.out.2.2.2.2.2.2, HR.out.2.2.2.2.2.1]; exact lv_one.1 HLC.out)] at hvs
          have hv1 := hvs.1 rfl
          rw [HR.out.2.2.2.2.2.2] at hv1
          have HV1 := Lib.hid hv1
          clear hvs hv1
          go_wp2
          go_roundg (n - (i + 1))
          case measure => omega
          case rel =>
            refine ⟨i + 1, kp ++ [k], hin, Nat.le_refl _, by simp, rfl, Lib.hid ⟨CV'.set k (.slice (some ⟨ck, 0, none⟩) c'.length cc, c'), L', tv', tr', buf.take kp.length ++ [k] ++ buf.drop (kp.length + 1), by simp; exact HB.out.1, buf_next HB.out.1 HB.out.2 hin hdr.out.1, ?_, ?_⟩⟩
            · rw [List.map_set]; exact HV1.out
            · refine vis_lay HR.out.1 ?_
              have h9 := H9.out
              rw [← nv_next] at h9
              have h9 := h9.sink 9
              rw [HMH.out]
              exact h9
        · have hb1 : (lc == 1) = false := by simpa using hA
          go_wp2
          (refine wp_region_text (by kernel_rfl) (by kernel_rfl) ?_)
          go_wp2_with fail
          refine (of_calls (HOF.out.fr (by (repeat first | exact Fr.refl _ _ | assumption | apply Fr.n | apply Fr.d | apply Fr.a | refine Fr.s ?_ (.inr (by simp; try omega)) _))) HT.out HAL.out.1 HAL.out.2 (by omega)).mono ?_
          rw [hlc]
          rintro e w2 ⟨rfl, rfl⟩
          clear hlc
          go_wp2
          refine Strict.intro rfl ?_
          obtain ⟨ot, hot⟩ : ∃ z : Int, otherZ tr' c' = z := ⟨_, rfl⟩
          have HOT := Lib.hid hot
          clear hot
          go_upto_region 11 with fail
          go_cut [10] (fun s10 wx => s10 = .int .i64 ot ∧ Hid (Has W wx (visM eb p V (.slice (some ⟨ck, 0, none⟩) c'.length cc) c' (CV'.eraseIdx k) (CV'.map (·.1)) L' x mb (.slice (some ⟨hg, 0, none⟩) m hc9) vv tv' dv tr' dn D bad (.slice (some ⟨g, 0, none⟩) n oc) n buf ++ Ps)))
          case first =>
            have HRW := Lib.hid HM2.out.row
            have hlcap := owns_cap HM2.out.row
            have HCC := Lib.hid (fun y hy => HCL.out.2.2 y (HR.out.2.2.1.mem_iff.1 hy))
            by_cases hcc : cc = 2
            · subst hcc
              go_wp2_with fail
              refine (other_calls (p := p) (V := V) (eb := eb) (tr := tr') (c := c') (g := ck) (cap := 2) (HOF.out.fr (by (repeat first | exact Fr.refl _ _ | assumption | apply Fr.n | apply Fr.d | apply Fr.a | refine Fr.s ?_ (.inr (by simp; try omega)) _))) HT.out hV ?ce ?cl (owns_of_block HRW.out ?cr) hc2 HCC.out hclen (fun e => absurd rfl e) _ ?cm _).mono ?_
              case ce => exact e0
              case cl => exact el
              case cr => intro q _; rfl
              case cm => first | rfl | omega
              rw [HOT.out]
              rintro e w3 ⟨rfl, q, rfl⟩
              go_wp2
              go_meet
              exact ⟨rfl, Lib.hid (HM2.out.step (by (repeat first | exact Fr.refl _ _ | assumption | apply Fr.n | apply Fr.d | apply Fr.a | refine Fr.s ?_ (.inr (by simp; try omega)) _)))⟩
            · have hcc3 : ¬ 2 = cc := fun e => hcc e.symm
              go_wp2_with fail
              refine (other_calls (p := p) (V := V) (eb := eb) (tr := tr') (c := c') (g := ck) (cap := cc) (HOF.out.fr (by (repeat first | exact Fr.refl _ _ | assumption | apply Fr.n | apply Fr.d | apply Fr.a | refine Fr.s ?_ (.inr (by simp; try omega)) _))) HT.out hV ?ce ?cl (owns_of_block HRW.out ?cr) hc2 HCC.out hclen (fun e => rfl) _ ?cm _).mono ?_
              case ce => exact e0
              case cl => exact el
              case cr => intro q _; rfl
              case cm => first | rfl | omega
              rw [HOT.out]
              rintro e w3 ⟨rfl, q, rfl⟩
              go_wp2
              go_meet
              exact ⟨rfl, Lib.hid (HM2.out.step (by (repeat first | exact Fr.refl _ _ | assumption | apply Fr.n | apply Fr.d | apply Fr.a | refine Fr.s ?_ (.inr (by simp; try omega)) _)))⟩
          case rest =>
            obtain ⟨rfl, HM3⟩ := hcut
            clear HM2 r0 rl cl e0 el HOF hb1
            have h := HM3.out
            have hr := h.row
            have r0 := owns_cell hr rfl (iv_get HR.out.2.2.2.2.1)
            have r1 := owns_cell hr rfl (iv_get HR.out.2.2.2.1)
            have rz1 := owns_frozen hr rfl 1
            have rl := owns_lt hr rfl
            have hb := (h.bring 3).blk
            have c1 : _ = some _ := heap_eq_cell hb 1
            have cl := lt_of_block hb
            have hb0 := (h.bring 2).blk
            have e0 : _ = some _ := heap_eq_cell hb0 0
            have el := lt_of_block hb0
            clear h hb hb0
            have hnA : a ∉ tr' := fun e => hA (by rw [← HLC.out]; exact lv_one.2 e)
            have HNA := Lib.hid hnA
            cases ho : other tr' c' with
            | some o =>
              obtain rfl : ot = (o : Int) := by rw [← HOT.out]; unfold otherZ; rw [ho]
              obtain ⟨y, hy, hyt⟩ := other_some ho
              have hol : o + 2 < c'.length := (List.getElem?_eq_some_iff.1 hy).1
              have ry := owns_cell hr rfl (iv_get hy)
              have rzy := owns_frozen hr rfl (o + 2)
              have hgy : c'.getD (o + 2) 0 = y := by rw [List.getD_eq_getElem?_getD, hy]; rfl
              have hg1 : c'.getD 1 0 = x := by rw [List.getD_eq_getElem?_getD, HR.out.2.2.2.1]; rfl
              have HO := Lib.hid (And.intro ho (And.intro hy (And.intro hyt (And.intro hgy hg1))))
              clear hr ho hy hyt hgy hg1 hnA
              go_wp2
              (refine wp_region_text (by kernel_rfl) (by kernel_rfl) ?_)
              go_wp2
              refine Strict.intro rfl ?_
              go_upto_region 14 with fail
              refine abs_world (fun w' => Has W w' (visM eb p V (.slice (some ⟨ck, 0, none⟩) c'.length cc) (swp c' 1 (o + 2)) (CV'.eraseIdx k) (CV'.map (·.1)) L' x mb (.slice (some ⟨hg, 0, none⟩) m hc9) vv tv' dv tr' dn D bad (.slice (some ⟨g, 0, none⟩) n oc) n buf ++ Ps)) ?_ ?_
              · have h2 := (Has.rowSet (j := o + 2) (Has.rowSet (j := 1) HM3.out (by rw [iv_length]; omega) (.int .i64 y)) (by rw [List.length_set, iv_length]; omega) (.int .i64 x))
                rw [iv_set, iv_set] at h2
                unfold visM
                rw [swp_length]
                unfold swp
                rw [HO.out.2.2.2.1, HO.out.2.2.2.2]
                exact h2.step (by (repeat first | exact Fr.refl _ _ | assumption | apply Fr.n | apply Fr.d | apply Fr.a | refine Fr.s ?_ (.inr (by simp; try omega)) _))
              intro w4 h4
              clear HM3 r0 r1 rz1 rl c1 cl e0 el ry rzy
              have hyx : y ≠ x := by
                rintro rfl
                have := HVI.out.pre.subset (List.mem_of_getElem? HX.out)
                exact HO.out.2.2.1 this
              have HYX := Lib.hid hyx
              clear hyx
              have hr := h4.row
              have r1 : _ = some (Value.int .i64 y) := owns_cell (h4.row) (by rw [swp_length]) (iv_get (i := 1) (x := y) (by rw [swp_get (by omega) hol, if_neg (by omega), if_pos rfl]; exact HO.out.2.1))
              have rl : ck < w4.heap.size := owns_lt hr rfl
              have hb := (h4.bring 3).blk
              have c1 : _ = some _ := heap_eq_cell hb 1
              have cl := lt_of_block hb
              have hb0 := (h4.bring 2).blk
              have e0 : _ = some _ := heap_eq_cell hb0 0
              have el := lt_of_block hb0
              have HMP := Lib.hid (h4.bring 7).map
              have hml := HMP.out.lt
              have h5 := (h4.bring 8).pickKey y
              rw [wv_out HYX.out, wl_out HYX.out] at h5
              have hwl : (wl L' y).length ≤ 300000 := by
                have h1 := wt_len HVI.out.wt y
                have h2 := HVI.out.perm.1
                simp only [Sv.upd, if_neg HYX.out, List.length_map] at h1 h2
                have h3 := HS.out.1
                omega
              have hmaxl : (300001 : Nat) ≤ maxLen := by decide
              have HLY := Lib.hid (show (wl L' y).length + 1 ≤ maxLen ∧ ((wl L' y).length + 1) * 8 ≤ 140737488355328 from by omega)
              have H5 := Lib.hid h5
              clear h4 hr hb hb0 h5 hwl hmaxl
              refine wp_region_segs [([0, 1, 2, 3, 4, 5, 6, 7, 8, 9, 10, 11, 12, 13, 14, 15, 16, 17], [0, 3, 6]), ([18], [])] (by kernel_rfl) (by kernel_rfl) ?_
              (simp only [wpSegs, pick, Array.getD_eq_getD_getElem?, List.getElem?_toArray, List.getElem?_cons_succ, List.getElem?_cons_zero, Option.getD_some])
              go_wp2_with (first | (at_lookup; refine wpList_lookup_wv (f := fun n : Int => Value.int .i64 n) (L := L') (k := y) rfl rfl rfl rfl (HMP.out) Try.underlying76 keysI (by kernel_rfl) ?_) | (at_builtin; refine append_has (W := W) (size := 1) (bytes := 8) (z := .int .i64 0) (e := 3) (n := (wl L' y).length) (xs := nv (wl L' y)) (news := [.int .i64 (k : Int)]) rfl rfl Try.underlying51 (by kernel_rfl) rfl (by decide) rfl rfl (H5.out.step (by (repeat first | exact Fr.refl _ _ | assumption | apply Fr.n | apply Fr.d | apply Fr.a | refine Fr.s ?_ (.inr (by simp; try omega)) _))) (by (repeat first | rw [if_pos (by omega)] | rw [if_neg (by omega)] | rw [hp_drew] | rw [hp_drewN] | rw [hp_alloc_size] | rw [hp_setCell_size] | rw [hp_alloc] | rw [hp_setCell] | rw [oMS] | rw [upd_cells] | rw [lSZ] | rw [lSS] | rfl)) rfl (by simp [Value.oneCell']) HLY.out.1 HLY.out.2 ?_))
              intro g2 cap2 w9 h9 hf9 hg9
              clear c1 cl e0 el r1 rl
              have hb := (h9.bring 5).blk
              have c1 : _ = some _ := heap_eq_cell hb 1
              have cl := lt_of_block hb
              have hb0 := (h9.bring 4).blk
              have e0 : _ = some _ := heap_eq_cell hb0 0
              have el := lt_of_block hb0
              have hr := (h9.bring 2).row
              have r1 : _ = some (Value.int .i64 y) := owns_cell hr (by rw [swp_length]) (iv_get (i := 1) (x := y) (by rw [swp_get (by omega) hol, if_neg (by omega), if_pos rfl]; exact HO.out.2.1))
              have HMP9 := Lib.hid (h9.bring 9).map
              have H9 := Lib.hid h9
              clear h9 hb hb0 hr hf9 H5 HMP
              go_wp2
              refine Mid.intro ⟨⟨again_cell (T := 52) rfl rfl rfl Try.underlying52 rfl e0 rfl, again_cell (T := 76) rfl rfl rfl Try.underlying76 rfl c1 rfl, again_cell (T := 3) rfl rfl rfl Try.underlying3 rfl r1 rfl, trivial⟩, ?_⟩
              go_wp2_with (at_mapUpdate; refine wpList_update_wl (f := fun n : Int => Value.int .i64 n) (L := L') (k := y) (wl L' y ++ [k]) rfl rfl rfl rfl rfl (HMP9.out) Try.underlying76 keysI ?_)
              intro w10 hm10 hf10 hs10
              have h10 := ((H9.out.bring 9).mapped hm10 hf10).ord 12 [1, 2, 0, 3, 4, 5, 6, 7, 8, 9, 10, 11]
              have h11 := Has.nvSnoc (k := k) (l := wl L' y) h10
              have h12 := (Has.layKey (L := out L' x) (k := y) h11).ord 11 [2, 3, 4, 5, 6, 7, 8, 1, 0, 9, 10]
              rw [← put_out HYX.out] at h12
              have hvs := (vstep_inv HVI.out (List.mem_of_getElem? HX.out) (fun y hy => List.mem_of_mem_take hy) (fun P hP y hy => (HC.out.hpcs P hP).subset hy) HG.out)
              rw [vstep_move HR.out.2.1 (by rw [HR.out.2.2.2.2.2.2, HR.out.2.2.2.2.2.1]; exact HNA.out) (by rw [HR.out.2.2.2.2.2.2]; exact HO.out.1), HR.out.2.2.2.2.2.2, HO.out.2.2.2.1] at hvs
              have HV1 := Lib.hid (hvs.1 rfl)
              have H12 := Lib.hid h12
              clear hvs h10 h11 h12 H9 HMP9 hm10 hf10 hs10 c1 cl e0 el r1
              go_wp2
              refine Mid.intro ⟨trivial, Strict.intro rfl ?_⟩
              go_wp2
              go_roundg (n - (i + 1))
              case measure => omega
              case rel =>
                refine ⟨i + 1, kp, hin, Nat.le_refl _, rfl, rfl, Lib.hid ⟨CV'.set k (.slice (some ⟨ck, 0, none⟩) c'.length cc, swp c' 1 (o + 2)), put L' y (.slice (some ⟨g2, 0, none⟩) ((wl L' y).length + 1) cap2, wl L' y ++ [k]), tv', tr', buf, by have := HB.out.1; omega, ⟨HB.out.2.1, HB.out.2.2.1, ?_⟩, ?_, ?_⟩⟩
                · have h4 := congrArg (List.drop 1) HB.out.2.2.2
                  rw [List.drop_drop, List.drop_drop] at h4
                  exact h4
                · rw [List.map_set, wl_upd]; exact HV1.out
                · refine vis_lay HR.out.1 ?_
                  rw [HMH.out]
                  exact H12.out.step (by (repeat first | exact Fr.refl _ _ | assumption | apply Fr.n | apply Fr.d | apply Fr.a | refine Fr.s ?_ (.inr (by simp; try omega)) _))
            | none =>
              obtain rfl : ot = -1 := by rw [← HOT.out]; unfold otherZ; rw [ho]
              have HO := Lib.hid ho
              clear hr ho hnA r1 rz1
              go_wp2_with (at_builtin; refine inner1_has (W := W) (bytes := 8) (z := .int .i64 0) (e := 3) (g := g) (n := n) (cap := oc) (j := kp.length) (y := .int .i64 (k : Int)) (fr := (0, 0)) rfl rfl Try.underlying51 (by kernel_rfl) rfl rfl ((HM3.out.bring 9).step (by (repeat first | exact Fr.refl _ _ | assumption | apply Fr.n | apply Fr.d | apply Fr.a | refine Fr.s ?_ (.inr (by simp; try omega)) _))) (by (repeat first | rw [if_pos (by omega)] | rw [if_neg (by omega)] | rw [hp_drew] | rw [hp_drewN] | rw [hp_alloc_size] | rw [hp_setCell_size] | rw [hp_alloc] | rw [hp_setCell] | rw [oMS] | rw [upd_cells] | rw [lSZ] | rw [lSS] | rfl)) rfl ?k1 ?_)
              case k1 => have := HB.out.1; omega
              intro w9 h9 hf9 hs9
              have H9 := Lib.hid h9
              clear h9
              clear HM3 r0 rl c1 cl e0 el hf9 hs9
              have h9 := H9.out
              rw [← nv_next] at h9
              replace H9 := Lib.hid h9
              have hr := (h9.bring 1).row
              have r0 := owns_cell hr rfl (iv_get HR.out.2.2.2.2.1)
              have rl := owns_lt hr rfl
              have hb := (h9.bring 4).blk
              have c1 : _ = some _ := heap_eq_cell hb 1
              have cl := lt_of_block hb
              have hb0 := (h9.bring 3).blk
              have e0 : _ = some _ := heap_eq_cell hb0 0
              have el := lt_of_block hb0
              have hof : OfAt w9 p V tr' := by
                have h5 := (h9.bring 5).row
                obtain ⟨va, vc, hvv, hv0, hv1⟩ := owns_form2 h5
                obtain ⟨vg, rfl⟩ : ∃ vg, va = some ⟨vg, 0, none⟩ := by
                  cases va with
                  | none => have := (hv0 rfl).1; omega
                  | some ad => obtain ⟨q, rfl⟩ := hv1 ad rfl; exact ⟨q, rfl⟩
                rw [hvv] at h5 hb
                exact ⟨cl, vg, vc, owns_lt h5 rfl, heap_eq_cell hb 2, fun v hv => owns_cell h5 rfl (vals_get hv)⟩
              have HOF := Lib.hid hof
              clear h9 hr hb hb0 hof
              by_cases hB : lc = -1
              · subst hB
                go_wp2
                (refine wp_region_text (by kernel_rfl) (by kernel_rfl) ?_)
                go_wp2_with fail
                refine (of_calls (HOF.out.fr (by (repeat first | exact Fr.refl _ _ | assumption | apply Fr.n | apply Fr.d | apply Fr.a | refine Fr.s ?_ (.inr (by simp; try omega)) _))) HT.out HAL.out.1 HAL.out.2 (by omega)).mono ?_
                rw [HLC.out]
                rintro e w2 ⟨rfl, rfl⟩
                go_wp2
                refine Strict.intro rfl ?_
                obtain ⟨buf', hbuf'⟩ : ∃ l, buf.take kp.length ++ [k] ++ buf.drop (kp.length + 1) = l := ⟨_, rfl⟩
                have hbn := buf_next HB.out.1 HB.out.2 hin hdr.out.1
                rw [hbuf'] at hbn H9
                have hvs := (vstep_inv HVI.out (List.mem_of_getElem? HX.out) (fun y hy => List.mem_of_mem_take hy) (fun P hP y hy => (HC.out.hpcs P hP).subset hy) HG.out)
                rw [vstep_conf HR.out.2.1 (by rw [HR.out.2.2.2.2.2.2, HR.out.2.2.2.2.2.1]; exact HNA.out) (by rw [HR.out.2.2.2.2.2.2]; exact HO.out) (by rw [HR.out.2.2.2.2.2.2, HR.out.2.2.2.2.2.1]; exact (lv_mone HT.out).1 HLC.out), HR.out.2.2.2.2.2.2] at hvs
                have HV1 := Lib.hid (hvs.2 rfl).final
                have HPRE := Lib.hid (hvs.2 rfl).pre
                have HBN := Lib.hid hbn
                clear hvs hbn hbuf' r0 rl HOF
                have hno := owns_cap H9.out.row
                have hkl1 := HB.out.1
                have holdn : (old.drop (i + 1)).length = n - (i + 1) := by
                  have h1 := congrArg List.length hdr.out.1
                  have h2 := congrArg List.length HBN.out.2.2
                  simp only [List.length_drop] at h2 ⊢
                  have := HBN.out.1
                  omega
                have HON := Lib.hid holdn
                clear holdn
                by_cases hoc : i + 1 = oc
                · have hm0 : n - (i + 1) = 0 := by omega
                  subst hoc
                  go_upto_region 17 with fail
                  refine wp_region_segs [([0, 1, 2, 3, 4, 5, 6, 7, 8, 9, 10], [0, 3]), ([11], [])] (by kernel_rfl) (by kernel_rfl) ?_
                  (simp only [wpSegs, pick, Array.getD_eq_getD_getElem?, List.getElem?_toArray, List.getElem?_cons_succ, List.getElem?_cons_zero, Option.getD_some])
                  go_wp2
                  have h10 := H9.out.step (w' := w9.drew.drew) (by (repeat first | exact Fr.refl _ _ | assumption | apply Fr.n | apply Fr.d | apply Fr.a | refine Fr.s ?_ (.inr (by simp; try omega)) _))
                  have htkk : (nv buf').take (kp.length + 1) = nv (kp ++ ([k] ++ old.drop (i + 1))) := by
                    have hnil : old.drop (i + 1) = [] := List.eq_nil_of_length_eq_zero (by rw [HON.out]; exact hm0)
                    have e := HBN.out.2.1
                    rw [hnil]
                    unfold nv
                    rw [← List.map_take, List.append_nil]
                    congr 1
                    simpa using e
                  clear c1 cl e0 el
                  have hb := (h10.bring 4).blk
                  have c1 : _ = some _ := heap_eq_cell hb 1
                  have cl := lt_of_block hb
                  have hb0 := (h10.bring 3).blk
                  have e0 : _ = some _ := heap_eq_cell hb0 0
                  have el := lt_of_block hb0
                  have HMP9 := Lib.hid (h10.bring 8).map
                  have h11 := h10.rowCut (m := kp.length + 1) (by omega)
                  (rw [Nat.mul_one, htkk] at h11; clear htkk)
                  have hl3 : kp.length + 1 = (kp ++ ([k] ++ old.drop (i + 1))).length := by
                    have h1 := HON.out
                    simp only [List.length_append, List.length_cons, List.length_nil, h1]; omega
                  have H11 := Lib.hid h11
                  have HL3 := Lib.hid hl3
                  clear h10 h11 hb hb0 hl3
                  skip
                  refine Mid.intro ⟨⟨again_cell (T := 52) rfl rfl rfl Try.underlying52 rfl e0 rfl, again_cell (T := 76) rfl rfl rfl Try.underlying76 rfl c1 rfl, trivial⟩, ?_⟩
                  go_wp2_with (at_mapUpdate; refine wpList_update_wl (f := fun n : Int => Value.int .i64 n) (L := L') (k := x) (kp ++ ([k] ++ old.drop (i + 1))) rfl rfl rfl rfl rfl (HMP9.out) Try.underlying76 keysI ?_)
                  intro w11 hm11 hf11 hs11
                  have h12 := ((H11.out.bring 8).mapped hm11 hf11).ord 11 [1, 9, 0, 2, 3, 4, 5, 6, 7, 8, 10]
                  have h14 := (Has.layKey (k := x) (L := L') (h12.nvLen HL3.out)).ord 10 [2, 3, 5, 8, 1, 0, 6, 7, 9]
                  have h15 := (Has.lay (l := CV') (k := k) (b := (.slice (some ⟨ck, 0, none⟩) c'.length cc, c')) (R := rowC) h14 (List.getElem?_eq_some_iff.1 HR.out.1).1).ord 8 [1, 2, 0, 3, 4, 5, 6, 7]
                  have H15 := Lib.hid h15
                  clear h12 h14 h15 H11 H9 HMP9 hm11 hf11 hs11 c1 cl e0 el
                  go_wp2
                  refine Mid.intro ⟨trivial, Strict.intro rfl ?_⟩
                  go_wp2
                  go_ret
                  refine ⟨false, CV'.set k (.slice (some ⟨ck, 0, none⟩) c'.length cc, c'), put L' x (.slice (some ⟨g, 0, none⟩) (kp.length + 1) (i + 1), kp ++ ([k] ++ old.drop (i + 1))), tr', rfl, eng_close (mb := mb) (cv := .slice (some ⟨hg, 0, none⟩) m hc9) (vv := vv) (tv := tv') (dv := dv) ?_, HPRE.out, (fun e => by cases e), fun _ => ?_⟩
                  · unfold engL
                    rw [set_fst HR.out.1, List.length_set]
                    have h16 := H15.out.step (by (repeat first | exact Fr.refl _ _ | assumption | apply Fr.n | apply Fr.d | apply Fr.a | refine Fr.s ?_ (.inr (by simp; try omega)) _) : Fr [] w11 _)
                    rw [show CV'.length = (CV'.map (·.1)).length by simp]
                    exact h16
                  · rw [List.map_set, wl_upd, ← List.append_assoc]
                    exact HV1.out
                · have hoc2 : ¬ oc = i + 1 := fun e => hoc e.symm
                  go_upto_region 17 with fail
                  refine wp_region_segs [([0, 1, 2, 3, 4, 5, 6, 7, 8, 9, 10], [0, 3]), ([11], [])] (by kernel_rfl) (by kernel_rfl) ?_
                  (simp only [wpSegs, pick, Array.getD_eq_getD_getElem?, List.getElem?_toArray, List.getElem?_cons_succ, List.getElem?_cons_zero, Option.getD_some])
                  go_wp2_with (at_builtin; refine inner_has (W := W) (size := 1) (bytes := 8) (z := .int .i64 0) (e := 3) (g := g) (n := n) (cap := oc) (j := kp.length + 1) (m := n - (i + 1)) (news := nv (old.drop (i + 1))) rfl rfl Try.underlying51 (by kernel_rfl) rfl rfl (H9.out.step (by (repeat first | exact Fr.refl _ _ | assumption | apply Fr.n | apply Fr.d | apply Fr.a | refine Fr.s ?_ (.inr (by simp; try omega)) _))) ?l1 ?l2 (nv_one _) (by omega) ?_)
                  case l1 => have h1 := HON.out; simp only [List.length_drop, nv_length, Nat.mul_one] at h1 ⊢; exact h1
                  case l2 =>
                    intro j u hj
                    (try rw [addr_add])
                    have h1 := HBN.out.2.2
                    rw [← h1] at hj
                    unfold nv at hj
                    rw [List.map_drop, List.getElem?_drop] at hj
                    exact owns_cell (owns_of_block H9.out.row (fun q _ => by first | rfl | simp)) rfl hj
                  intro w10 h10 hf10 hs10
                  clear hf10
                  clear c1 cl e0 el
                  have hb := (h10.bring 4).blk
                  have c1 : _ = some _ := heap_eq_cell hb 1
                  have cl := lt_of_block hb
                  have hb0 := (h10.bring 3).blk
                  have e0 : _ = some _ := heap_eq_cell hb0 0
                  have el := lt_of_block hb0
                  have HMP9 := Lib.hid (h10.bring 8).map
                  have h11 := h10.rowCut (m := kp.length + 1 + (n - (i + 1))) (by omega)
                  rw [Nat.mul_one, nv_conf _ HBN.out.2.1 HON.out] at h11
                  have hl3 : kp.length + 1 + (n - (i + 1)) = (kp ++ ([k] ++ old.drop (i + 1))).length := by
                    have h1 := HON.out
                    simp only [List.length_append, List.length_cons, List.length_nil, h1]; omega
                  have H11 := Lib.hid h11
                  have HL3 := Lib.hid hl3
                  clear h10 h11 hb hb0 hl3
                  go_wp2
                  refine Mid.intro ⟨⟨again_cell (T := 52) rfl rfl rfl Try.underlying52 rfl e0 rfl, again_cell (T := 76) rfl rfl rfl Try.underlying76 rfl c1 rfl, trivial⟩, ?_⟩
                  go_wp2_with (at_mapUpdate; refine wpList_update_wl (f := fun n : Int => Value.int .i64 n) (L := L') (k := x) (kp ++ ([k] ++ old.drop (i + 1))) rfl rfl rfl rfl rfl (HMP9.out) Try.underlying76 keysI ?_)
                  intro w11 hm11 hf11 hs11
                  have h12 := ((H11.out.bring 8).mapped hm11 hf11).ord 11 [1, 9, 0, 2, 3, 4, 5, 6, 7, 8, 10]
                  have h14 := (Has.layKey (k := x) (L := L') (h12.nvLen HL3.out)).ord 10 [2, 3, 5, 8, 1, 0, 6, 7, 9]
                  have h15 := (Has.lay (l := CV') (k := k) (b := (.slice (some ⟨ck, 0, none⟩) c'.length cc, c')) (R := rowC) h14 (List.getElem?_eq_some_iff.1 HR.out.1).1).ord 8 [1, 2, 0, 3, 4, 5, 6, 7]
                  have H15 := Lib.hid h15
                  clear h12 h14 h15 H11 H9 HMP9 hm11 hf11 hs11 c1 cl e0 el
                  go_wp2
                  refine Mid.intro ⟨trivial, Strict.intro rfl ?_⟩
                  go_wp2
                  go_ret
                  refine ⟨false, CV'.set k (.slice (some ⟨ck, 0, none⟩) c'.length cc, c'), put L' x (.slice (some ⟨g, 0, none⟩) (kp.length + 1 + (n - (i + 1))) oc, kp ++ ([k] ++ old.drop (i + 1))), tr', rfl, eng_close (mb := mb) (cv := .slice (some ⟨hg, 0, none⟩) m hc9) (vv := vv) (tv := tv') (dv := dv) ?_, HPRE.out, (fun e => by cases e), fun _ => ?_⟩
                  · unfold engL
                    rw [set_fst HR.out.1, List.length_set]
                    have h16 := H15.out.step (by (repeat first | exact Fr.refl _ _ | assumption | apply Fr.n | apply Fr.d | apply Fr.a | refine Fr.s ?_ (.inr (by simp; try omega)) _) : Fr [] w11 _)
                    rw [show CV'.length = (CV'.map (·.1)).length by simp]
                    exact h16
                  · rw [List.map_set, wl_upd, ← List.append_assoc]
                    exact HV1.out
              · have hb2 : (lc == -1) = false := by simpa using hB
                go_wp2
                (refine wp_region_text (by kernel_rfl) (by kernel_rfl) ?_)
                go_wp2_with fail
                refine (of_calls (HOF.out.fr (by (repeat first | exact Fr.refl _ _ | assumption | apply Fr.n | apply Fr.d | apply Fr.a | refine Fr.s ?_ (.inr (by simp; try omega)) _))) HT.out HAL.out.1 HAL.out.2 (by omega)).mono ?_
                rw [HLC.out]
                rintro e w2 ⟨rfl, rfl⟩
                go_wp2
                refine Strict.intro rfl ?_
                go_wp2
                (refine wp_region_text (by kernel_rfl) (by kernel_rfl) ?_)
                go_wp2_with fail
                have hna2 : -a ∉ tr' := fun e => hB (by rw [← HLC.out]; exact (lv_mone HT.out).2 e)
                have HNA2 := Lib.hid hna2
                clear hna2
                refine (set_gen (((H9.out.step (by (repeat first | exact Fr.refl _ _ | assumption | apply Fr.n | apply Fr.d | apply Fr.a | refine Fr.s ?_ (.inr (by simp; try omega)) _))).ord 11 [4, 5, 6, 0, 1, 2, 3, 7, 8, 9, 10])) HT.out hV HAL.out.1 HAL.out.2 ⟨HNA.out, HNA2.out⟩).mono ?_
                rintro e w3 ⟨rfl, tv2, h3⟩
                have h4 := h3.ord 11 [4, 5, 6, 0, 1, 2, 7, 8, 9, 3, 10]
                have hvs := (vstep_inv HVI.out (List.mem_of_getElem? HX.out) (fun y hy => List.mem_of_mem_take hy) (fun P hP y hy => (HC.out.hpcs P hP).subset hy) HG.out)
                rw [vstep_unit HR.out.2.1 (by rw [HR.out.2.2.2.2.2.2, HR.out.2.2.2.2.2.1]; exact HNA.out) (by rw [HR.out.2.2.2.2.2.2]; exact HO.out) (by rw [HR.out.2.2.2.2.2.2, HR.out.2.2.2.2.2.1]; exact HNA2.out), HR.out.2.2.2.2.2.2, HR.out.2.2.2.2.2.1] at hvs
                have HV1 := Lib.hid (hvs.1 rfl)
                have H12 := Lib.hid h4
                clear h3 h4 hvs H9 r0 rl c1 cl e0 el HOF
                go_wp2
                refine Strict.intro rfl ?_
                go_wp2
                go_roundg (n - (i + 1))
                case measure => omega
                case rel =>
                  refine ⟨i + 1, kp ++ [k], hin, Nat.le_refl _, by simp, rfl, Lib.hid ⟨CV'.set k (.slice (some ⟨ck, 0, none⟩) c'.length cc, c'), L', tv2, tr' ++ [a], buf.take kp.length ++ [k] ++ buf.drop (kp.length + 1), by simp; exact HB.out.1, buf_next HB.out.1 HB.out.2 hin hdr.out.1, ?_, ?_⟩⟩
                  · rw [List.map_set]; exact HV1.out
                  · refine vis_lay HR.out.1 ?_
                    rw [HMH.out]
                    exact H12.out.step (by (repeat first | exact Fr.refl _ _ | assumption | apply Fr.n | apply Fr.d | apply Fr.a | refine Fr.s ?_ (.inr (by simp; try omega)) _))
    · obtain rfl : i = n := by omega
      have holdl : old.length = i := by rw [← hold]; exact HN.out
      have hkn : kp.length ≤ i := hk
      rw [List.drop_of_length_le (by omega)] at hVI
      have HF := Lib.hid (hVI.final HX.out HC.out.hpcs)
      have HPRE := Lib.hid hVI.pre
      have hb := (hH.bring 1).blk
      have c1 : _ = some _ := heap_eq_cell hb 1
      have cl := lt_of_block hb
      have hb0 := (hH.bring 0).blk
      have e0 : _ = some _ := heap_eq_cell hb0 0
      have el := lt_of_block hb0
      have hro : Has W wr (Hp.row 3 1 (.slice oa kp.length oc) kp.length (nv kp) :: (visL eb p V CV' L' x mb cv vv tv' dv tr' dn D bad (.slice oa i oc) i buf ++ Ps).eraseIdx 8) := by
        have h8 := hH.bring 8
        cases oa with
        | none =>
          have h0 := HON.out rfl
          obtain ⟨rfl, rfl⟩ := h0
          obtain rfl : kp = [] := List.eq_nil_of_length_eq_zero (by omega)
          have : buf = [] := List.eq_nil_of_length_eq_zero hbuf.1
          subst this
          exact h8
        | some ad =>
          obtain ⟨g, rfl⟩ := HOA.out ad rfl
          have h9 := Has.rowCut (m := kp.length) h8 (by omega)
          have e1 : (nv buf).take (kp.length * 1) = nv kp := by rw [Nat.mul_one]; unfold nv; rw [← List.map_take, hbuf.2.1]
          rw [e1] at h9
          exact h9
      have H9 := Lib.hid hro
      have HMP := Lib.hid (hH.bring 6).map
      clear hro hH hVI hbuf hk hb hb0 HI hold HC HX HG HS HN HOA HON
      go_wp2_with (at_mapUpdate; refine wpList_update_wl (f := fun n : Int => Value.int .i64 n) (L := L') (k := x) kp rfl rfl rfl rfl rfl (HMP.out) Try.underlying76 keysI ?_)
      intro w9 hm9 hf9 hs9
      have h10 := (H9.out.bring 7).mapped hm9 hf9
      have h11 : Has W w9 _ := (h10.ord 10 [1, 8, 0, 3, 4, 5, 6, 7, 9])
      have h12 := (Has.layKey (k := x) (L := L') (l := kp) h11).ord 8 [2, 5, 6, 1, 0, 3, 4, 7]
      have H12 := Lib.hid h12
      clear h10 h11 h12 H9 hm9 HMP
      go_wp2
      go_ret
      refine ⟨true, CV', put L' x (.slice oa kp.length oc, kp), tr', rfl, eng_close (mb := mb) (cv := cv) (vv := vv) (tv := tv') (dv := dv) H12.out, HPRE.out, fun _ => ?_, fun e => by cases e⟩
      rw [wl_upd]
      exact HF.out
end Go.Proofs.Ytjidldfnlejdhaa
end

section
/- solve: what follows is assumed. -/
namespace Go.Proofs.Ytjidldfnlejdhaa
open Go Go.RowKit Go.Proofs.Rg Go.Proofs.Mp Go.Proofs.Hp Go.Proofs.Sv
set_option linter.unusedVariables false
set_option linter.unusedSimpArgs false
def PropPost (W : World) (Ps : List Res) (V : Nat) (G : Int → Prop) (cl0 Cs : List (List Int)) (p : Nat) (tr : List Int) (D : List Dec) (bad : Bool) (e : Ending) (w' : World) : Prop :=
  ∃ ok CV' L' tr' dn', e = .returned (.bool ok) ∧ Has W w' (engR p V CV' L' tr' dn' D bad :: Ps) ∧ tr <+: tr' ∧ (ok = true → Core V G cl0 Cs (CV'.map (·.2)) (wl L') tr' tr'.length ∧ dn' = tr'.length) ∧ (ok = false → Conf V G cl0 Cs (CV'.map (·.2)) (wl L') tr')
set_option maxHeartbeats 8000000 in
set_option maxRecDepth 100000 in
theorem propagate_calls {W w : World} {Ps : List Res} {p V : Nat} {CV : List (Value × List Int)} {L : List (Int × (Value × List Nat))} {tr : List Int} {dn : Nat} {D : List Dec} {bad : Bool} (h : Has W w (engR p V CV L tr dn D bad :: Ps)) (hV : V ≤ 65536)
    {G : Int → Prop} {cl0 Cs : List (List Int)} (hcore : Core V G cl0 Cs (CV.map (·.2)) (wl L) tr dn) (hdn : dn ≤ tr.length) (hG : Unit G cl0) (hS : cl0.length ≤ 300000 ∧ ∀ c ∈ cl0, c.length ≤ 1000000) :
    Calls Try.prog 55 #[.pointer (some ⟨p, 0, none⟩)] w (PropPost W Ps V G cl0 Cs p tr D bad) := by
  have H := Lib.hid h
  have HC := Lib.hid (And.intro hcore hdn)
  have HG := Lib.hid hG
  have HS := Lib.hid hS
  clear h hcore hG hS hdn
  go_enter Try.func55, Try.ntmps55
  go_wp2
  go_loopg [12] V (fun gg _ wr => ∃ (CV' : List (Value × List Int)) (L' : List (Int × (Value × List Nat))) (tr' : List Int) (dn' : Nat), V - dn' ≤ gg ∧ Hid (Core V G cl0 Cs (CV'.map (·.2)) (wl L') tr' dn' ∧ dn' ≤ tr'.length ∧ tr <+: tr') ∧ Hid (Has W wr (engR p V CV' L' tr' dn' D bad :: Ps)))
  case atStart => exact ⟨CV, L, tr, dn, by omega, Lib.hid ⟨HC.out.1, HC.out.2, List.prefix_refl _⟩, H⟩
  case round =>
    obtain ⟨CV', L', tr', dn', hg, H1, H2⟩ := hrel
    clear HC H
    obtain ⟨mb, cv, vv, tv, dv, h⟩ := eng_open H2.out
    simp only [engL, List.cons_append, List.nil_append] at h
    have hb := h.blk
    obtain ⟨ta, tc, rfl, ht0, ht1⟩ := owns_form2 (h.bring 6).row
    have c3 : _ = some _ := heap_eq_cell hb 3
    have c4 : _ = some _ := heap_eq_cell hb 4
    have cl := lt_of_block hb
    have hl := tr_len H1.out.1.htr
    have hdl := H1.out.2.1
    by_cases hd : dn' < tr'.length
    · obtain ⟨q, hq⟩ : ∃ q, tr'[dn']? = some q := ⟨_, List.getElem?_eq_getElem hd⟩
      obtain ⟨tg, rfl⟩ : ∃ tg, ta = some ⟨tg, 0, none⟩ := by
        cases ta with
        | none => have := (ht0 rfl).1; omega
        | some ad => obtain ⟨q, rfl⟩ := ht1 ad rfl; exact ⟨q, rfl⟩
      have hr := (h.bring 6).row
      have ct := owns_cell hr rfl (iv_get hq)
      have tl := owns_lt hr rfl
      have hqV := H1.out.1.htr.1 q (List.mem_of_getElem? hq)
      have hw1 : IntKind.i64.wrap (-q) = -q := IntWalk.i64_in _ (by omega)
      have HQ := Lib.hid (show tr'[dn']? = some (- -q) from by rw [Int.neg_neg]; exact hq)
      clear h hb hr hq hqV ht0 ht1
      go_wp2
      (refine wp_region_text (by kernel_rfl) (by kernel_rfl) ?_)
      go_wp2
      refine Strict.intro rfl ?_
      go_wp2
      (refine wp_region_text (by kernel_rfl) (by kernel_rfl) ?_)
      go_wp2_with fail
      refine (visit_calls (H2.out.step (by (repeat first | exact Fr.refl _ _ | assumption | apply Fr.n | apply Fr.d | apply Fr.a | refine Fr.s ?_ (.inr (by simp; try omega)) _))) hV H1.out.1 HQ.out HG.out HS.out).mono ?_
      rintro e w2 ⟨ok, CV2, L2, tr2, rfl, h2, hp2, hok, hno⟩
      have H3 := Lib.hid h2
      have HP := Lib.hid hp2
      have HK := Lib.hid hok
      have HN := Lib.hid hno
      clear h2 hp2 hok hno c3 c4 cl ct tl hw1
      cases ok with
      | true =>
        obtain ⟨mb, cv, vv, tv, dv, h⟩ := eng_open H3.out
        simp only [engL, List.cons_append, List.nil_append] at h
        have hb := h.blk
        have c4 : _ = some _ := heap_eq_cell hb 4
        have z4 := heap_eq_frozen hb 4
        have cl := lt_of_block hb
        have H4 := Lib.hid h
        clear h hb
        go_wp2
        refine Strict.intro rfl ?_
        go_wp2
        go_roundg (V - (dn' + 1))
        case measure => omega
        case rel =>
          refine ⟨CV2, L2, tr2, dn' + 1, Nat.le_refl _, Lib.hid ⟨HK.out (by simp), by have := HP.out.length_le; omega, H1.out.2.2.trans HP.out⟩, Lib.hid (eng_close (mb := mb) (cv := cv) (vv := vv) (tv := tv) (dv := dv) ?_)⟩
          simp only [engL, List.cons_append, List.nil_append]
          have h5 := H4.out.blkSet 4 (.int .i64 ((dn' + 1 : Nat) : Int))
          exact h5.step (by (repeat first | exact Fr.refl _ _ | assumption | apply Fr.n | apply Fr.d | apply Fr.a | refine Fr.s ?_ (.inr (by simp; try omega)) _))
      | false =>
        go_wp2
        refine Strict.intro rfl ?_
        go_wp2
        go_ret
        exact ⟨false, CV2, L2, tr2, dn', rfl, H3.out.step (by (repeat first | exact Fr.refl _ _ | assumption | apply Fr.n | apply Fr.d | apply Fr.a | refine Fr.s ?_ (.inr (by simp; try omega)) _)), H1.out.2.2.trans HP.out, (fun e => by cases e), fun _ => HN.out (by simp)⟩
    · obtain rfl : dn' = tr'.length := by omega
      clear h hb ht0 ht1
      go_wp2
      (refine wp_region_text (by kernel_rfl) (by kernel_rfl) ?_)
      go_wp2
      refine Strict.intro rfl ?_
      go_wp2
      go_ret
      exact ⟨true, CV', L', tr', tr'.length, rfl, H2.out.step (by (repeat first | exact Fr.refl _ _ | assumption | apply Fr.n | apply Fr.d | apply Fr.a | refine Fr.s ?_ (.inr (by simp; try omega)) _)), H1.out.2.2, fun _ => ⟨H1.out.1, rfl⟩, (fun e => by cases e)⟩
end Go.Proofs.Ytjidldfnlejdhaa
end
