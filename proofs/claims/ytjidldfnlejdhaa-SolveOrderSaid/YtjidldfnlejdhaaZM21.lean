/- Own texts of this claim, part 22: no condition. -/
import Derived.Laws.EntriesVeiled
import Derived.Deep.RegionHeld3
import Derived.Test.YtjidldfnlejdhaaZM20
import Derived.Test.YtjidldfnlejdhaaZM16
import Derived.Test.YtjidldfnlejdhaaZM13
import Derived.Test.YtjidldfnlejdhaaZM19
import Derived.Test.YtjidldfnlejdhaaZM18
set_option linter.unusedVariables false
set_option linter.unusedSimpArgs false
section
/- solve: under. -/
namespace Go.Proofs.Ytjidldfnlejdhaa
open Go Go.RowKit Go.Proofs.Rg Go.Proofs.Mp Go.Proofs.Hp Go.Proofs.Sv Go.Sort Go.Lib
set_option linter.unusedVariables false
set_option linter.unusedSimpArgs false
theorem under1_calls {w : World} {x y : Int} {xb : Nat} (hx : -1000000 ≤ x ∧ x ≤ 1000000) (hc : w.cell? ⟨xb, 0, none⟩ = some (.int .i64 x)) :
    Calls Try.prog 78 #[.int .i64 y, .pointer (some ⟨xb, 0, none⟩)] w fun e w' => e = .returned (.bool (y == -x)) ∧ ∃ q, w' = w.drewN q := by
  have hw1 : IntKind.i64.wrap (-x) = -x := IntWalk.i64_in _ (by omega)
  clear hx
  go_enter Try.func78, Try.ntmps78
  go_wp2
  go_ret
  exact ⟨rfl, 0, rfl⟩
theorem sort_cell {α : Type} [Inhabited α] {enc : α → Value} {w : World} {g xb : Nat} {o : Obj} (h : w.heap[xb]? = some o) (hne : xb ≠ g) (n : Nat) (os : Array Obj) (dk : Array α) : (sortWorld enc w g 0 n dk os).heap[xb]? = some o := by
  show ((Sort.ahead w n).heap.modify g _ ++ os)[xb]? = _
  have hg := lt_of_block h
  have hs : (Sort.ahead w n).heap = w.heap := rfl
  rw [hs, Array.getElem?_append_left (by simpa using hg), Array.getElem?_modify, if_neg (by rintro rfl; exact hne rfl), h]
theorem Delete_h {W w : World} {Ps : List Res} {l : List Int} {n g cap xb : Nat} {x : Int} (h : Has W w (Hp.row 3 1 (.slice (some ⟨g, 0, none⟩) n cap) n (iv l) :: Hp.blk xb (.cells #[.int .i64 x] 3 (0, 0)) :: Ps)) (hn : l.length = n) (hl : n ≤ 1000000) (hx : -1000000 ≤ x ∧ x ≤ 1000000) :
    Calls Try.prog 77 #[.slice (some ⟨g, 0, none⟩) n cap, .func (.func 78) #[] #[.pointer (some ⟨xb, 0, none⟩)]] w fun e w' => e = .returned (.slice (some ⟨g, 0, none⟩) (cutL l x).length cap) ∧
      Has W w' (Hp.row 3 1 (.slice (some ⟨g, 0, none⟩) (cutL l x).length cap) (cutL l x).length (iv (cutL l x)) :: Hp.blk xb (.cells #[.int .i64 x] 3 (0, 0)) :: Ps) := by
  have hcap := owns_cap h.row
  have hblk := h.swap.blk
  have hne : xb ≠ g := h.swap.br
  have eg : ∀ args w, (callFunc 78 args).run Try.prog w = .ok (.enter 78 args) w := enters_of Try.func78 (by kernel_rfl) rfl
  have hp : PredAt Try.prog 78 #[.pointer (some ⟨xb, 0, none⟩)] (Value.int .i64) (fun y => y == -x) w := fun W2 y hb =>
    under1_calls hx (heap_eq_cell ((hb.block xb (lt_of_block hblk)).trans hblk) 0)
  have hpo : PredOver Try.prog 78 #[.pointer (some ⟨xb, 0, none⟩)] (Value.int .i64) (fun y => y == -x) g 0 l.toArray.size w := fun k os dk y _ =>
    under1_calls hx (heap_eq_cell (sort_cell hblk hne k os dk) 0)
  have hcon := AnyE.slices_DeleteFunc Try.shDeleteFunc (Value.int .i64) int1 (fun y => y == -x) 78 #[.pointer (some ⟨xb, 0, none⟩)] eg 0 Try.zeroValue3 g 0 cap l.toArray w hp hpo (row_holds (enc := Value.int .i64) h.row) (by simp [hn]; omega) (by simp [hn]; exact hcap)
  change Calls Try.prog 77 _ _ _ at hcon
  have e1 : l.toArray.size = n := by simp [hn]
  have e2 : (l.toArray.toList.filter fun y => !(y == -x)) = cutL l x := rfl
  rw [e1, e2] at hcon
  refine hcon.mono ?_
  rintro e w' ⟨rfl, k, rfl⟩
  have hdl : (cutL l x).length ≤ n := by rw [← hn]; exact List.length_filter_le _ _
  have h2 := row_put h (l := cutL l x ++ List.replicate (n - (cutL l x).length) 0) (enc := Value.int .i64) (by simp; omega) k #[]
  rw [grow_empty] at h2
  have h3 := h2.rowCut (m := (cutL l x).length) (by omega)
  rw [Nat.mul_one, List.map_append, List.take_left' (by simp)] at h3
  exact ⟨rfl, h3⟩
theorem Contains_i {w : World} {g off c : Nat} {l : List Int} {x : Int} (hl : l.length ≤ 1000000) (hr : IntsAt w (.slice (some ⟨g, off, none⟩) l.length c) l) :
    Calls Try.prog 76 #[.slice (some ⟨g, off, none⟩) l.length c, .int .i64 x] w fun e w' => e = .returned (.bool (l.contains x)) ∧ w' = w := by
  have hcon := AnyE.slices_Contains Try.shContains (Value.int .i64) (fun a b => decide (a = b)) (EqlAt.intD _ _ .i64) g off l.length c l x w (Nat.le_refl _) (by omega) (fun j hj => by
    obtain ⟨g2, off2, he, _, hc⟩ := IntsAt.get hr (List.getElem?_eq_getElem hj)
    cases he
    rw [hc]; simp [hj])
  change Calls Try.prog 76 _ _ _ at hcon
  rw [List.take_length] at hcon
  have e : (l.any fun y => decide (x = y)) = l.contains x := by
    rw [Bool.eq_iff_iff, List.any_eq_true]
    simp
  rwa [e] at hcon
def UnderPost (W : World) (Ps : List Res) (cs : List (List Int)) (x : Int) (e : Ending) (w' : World) : Prop :=
  (Sv.under cs x = none ∧ e = .returned (.tuple #[.slice none 0 0, .bool false]) ∧ Has W w' Ps) ∨
  ∃ (OV : List (Value × List Int)) (oa : Option Addr) (oc : Nat), Sv.under cs x = some (OV.map (·.2)) ∧ e = .returned (.tuple #[.slice oa OV.length oc, .bool true]) ∧ Has W w' (Hp.row 51 1 (.slice oa OV.length oc) OV.length (OV.map (·.1)) :: bun (OV.map rowC) :: Ps)
theorem under_step {cs : List (List Int)} {x : Int} {i : Nat} {r : List Int} (hr : cs[i]? = some r) : Sv.under (cs.drop i) x = if r.contains x then Sv.under (cs.drop (i + 1)) x else if cutL r x = [] then none else (Sv.under (cs.drop (i + 1)) x).map fun q => cutL r x :: q := by
  obtain ⟨hi, he⟩ := List.getElem?_eq_some_iff.1 hr
  rw [List.drop_eq_getElem_cons hi, he]
  rfl
set_option maxHeartbeats 8000000 in
set_option maxRecDepth 100000 in
theorem under_calls {W w : World} {Ps : List Res} (h : Has W w Ps) {a : Option Addr} {c : Nat} {cs : List (List Int)} (hF : FormSrc W Ps a c cs) (hs : ∀ r ∈ cs, r ≠ [] ∧ r.length ≤ 1000000) (hn : cs.length ≤ 262144) {x : Int} (hx : -1000000 ≤ x ∧ x ≤ 1000000) :
    Calls Try.prog 63 #[.slice a cs.length c, .int .i64 x] w (UnderPost W Ps cs x) := by
  have H0 := Lib.hid (h.newBlk (.cells #[.int .i64 x] 3 (0, 0)))
  have HF := Lib.hid hF
  have HS := Lib.hid hs
  have HX := Lib.hid hx
  obtain ⟨n, hnn⟩ : ∃ n, cs.length = n := ⟨_, rfl⟩
  rw [hnn] at hn ⊢
  have HN := Lib.hid hnn
  obtain ⟨xb, hxb⟩ : ∃ b, w.heap.size = b := ⟨_, rfl⟩
  rw [hxb] at H0
  have hmaxl : (400001 : Nat) ≤ maxLen := by decide
  have HLY := Lib.hid (fun i (hi : i ≤ n) => (show i + 1 ≤ maxLen ∧ (i + 1) * 24 ≤ 140737488355328 from by omega))
  clear h hF hs hx hnn hmaxl
  go_enter Try.func63, Try.ntmps63
  go_wp2
  go_loopg [6, 11] n (fun gg z6 z wr => ∃ (i : Nat) (OV : List (Value × List Int)) (oa : Option Addr) (oc : Nat), i ≤ n ∧ n - i ≤ gg ∧ z6 = .slice oa OV.length oc ∧ z = .int .i64 (i : Int) ∧ Hid (OV.length ≤ i ∧ Sv.under cs x = (Sv.under (cs.drop i) x).map fun r => OV.map (·.2) ++ r) ∧
    Hid (Has W wr (Hp.row 51 1 (.slice oa OV.length oc) OV.length (OV.map (·.1)) :: bun (OV.map rowC) :: Hp.blk xb (.cells #[.int .i64 x] 3 (0, 0)) :: Ps)))
  case atStart =>
    refine ⟨0, [], none, 0, Nat.zero_le _, by omega, rfl, rfl, Lib.hid ⟨by simp, ?_⟩, Lib.hid (((H0.out.bunNil).nilRow 51 1))⟩
    rw [List.drop_zero]
    cases Sv.under cs x <;> simp
  case round =>
    obtain ⟨i, OV, oa, oc, hi, hg, rfl, rfl, HI, H⟩ := hrel
    clear H0 hxb
    have hb := (H.out.bring 2).blk
    have x0 : _ = some _ := heap_eq_cell hb 0
    have xl := lt_of_block hb
    clear hb
    by_cases hin : i < n
    · obtain ⟨r, hr⟩ : ∃ r, cs[i]? = some r := ⟨_, List.getElem?_eq_getElem (by rw [HN.out]; exact hin)⟩
      have hfa := HF.out wr _ H.out fun P hP => List.mem_cons_of_mem _ (List.mem_cons_of_mem _ (List.mem_cons_of_mem _ hP))
      obtain ⟨g, off, ra, rc, hae, hgl, hc, hri⟩ := hfa.1.row hr
      subst hae
      obtain ⟨hr0, hrl⟩ := HS.out r (List.mem_of_getElem? hr)
      have HST := Lib.hid (under_step (x := x) hr)
      obtain ⟨g2, off2, rfl⟩ : ∃ g2 off2, ra = some ⟨g2, off2, none⟩ := by
        cases r with
        | nil => exact absurd rfl hr0
        | cons y r =>
          obtain ⟨g2, off2, he, _, _⟩ := IntsAt.get hri (i := 0) (x := y) rfl
          exact ⟨g2, off2, he⟩
      have HRI := Lib.hid (And.intro hri (And.intro hr0 hrl))
      have HCO := Lib.hid (Contains_i (x := x) hrl hri)
      obtain ⟨ct, hct⟩ : ∃ b, r.contains x = b := ⟨_, rfl⟩
      rw [hct] at HCO HST
      have HCT := Lib.hid hct
      clear hfa hri hr0 hr hct
      go_wp2_with fail
      refine HCO.out.mono ?_
      rintro e w2 ⟨rfl, rfl⟩
      clear HCO
      cases ct with
      | true =>
        have HE := Lib.hid (show Sv.under cs x = (Sv.under (cs.drop (i + 1)) x).map fun r => OV.map (·.2) ++ r from by rw [HI.out.2, HST.out]; rfl)
        go_wp2
        go_roundg (n - (i + 1))
        case measure => omega
        case rel => exact ⟨i + 1, OV, oa, oc, hin, Nat.le_refl _, rfl, by simp, Lib.hid ⟨by have := HI.out.1; omega, HE.out⟩, H⟩
      | false =>
        go_wp2_with fail
        refine (Clone_h H.out (xs := iv r) HRI.out.1 (iv_one r) HRI.out.2.2).mono ?_
        rintro e w3 ⟨v3, rfl, h3⟩
        obtain ⟨va, vc, rfl, hv0, hv1⟩ := owns_form2 h3.row
        obtain ⟨g3, rfl⟩ : ∃ g3, va = some ⟨g3, 0, none⟩ := by
          cases va with
          | none => exact absurd (List.eq_nil_of_length_eq_zero (hv0 rfl).1) HRI.out.2.1
          | some ad => obtain ⟨g, rfl⟩ := hv1 ad rfl; exact ⟨g, rfl⟩
        have H3 := Lib.hid (h3.ord 4 [0, 3, 1, 2])
        clear h3 hv0 hv1 H hc hgl x0 xl
        go_wp2_with fail
        refine (Delete_h H3.out rfl HRI.out.2.2 HX.out).mono ?_
        rintro e w4 ⟨rfl, h4⟩
        obtain ⟨q, hq⟩ : ∃ q, cutL r x = q := ⟨_, rfl⟩
        rw [hq] at h4 HST ⊢
        have H4 := Lib.hid h4
        have HQ := Lib.hid hq
        clear h4 H3 hq
        by_cases hq0 : q.length = 0
        · have b1 : ((q.length : Int) == 0) = true := by simp [hq0]
          have HE := Lib.hid (show Sv.under cs x = none from by rw [HI.out.2, HST.out, List.eq_nil_of_length_eq_zero hq0]; rfl)
          clear hq0
          go_wp2
          go_ret2
          exact .inl ⟨HE.out, rfl, H4.out.drop.drop.drop.drop⟩
        · have b1 : ((q.length : Int) == 0) = false := by simpa using hq0
          have HE := Lib.hid (show Sv.under cs x = (Sv.under (cs.drop (i + 1)) x).map fun r => (OV.map (·.2) ++ [q]) ++ r from by
            rw [HI.out.2, HST.out, if_neg (by simp), if_neg (by rintro rfl; exact hq0 rfl), Option.map_map]
            congr 1
            funext r'
            simp)
          have h5 : Has W w4 (Hp.row 51 1 (.slice oa OV.length oc) OV.length (OV.map (·.1)) :: rowC (.slice (some ⟨g3, 0, none⟩) q.length vc, q) :: bun (OV.map rowC) :: Hp.blk xb (.cells #[.int .i64 x] 3 (0, 0)) :: Ps) := H4.out.ord 4 [2, 0, 3, 1]
          obtain ⟨m, hm⟩ : ∃ m, OV.length = m := ⟨_, rfl⟩
          rw [hm] at h5
          have H5 := Lib.hid h5
          have HM := Lib.hid hm
          have HLB := Lib.hid (HLY.out m (by have := HI.out.1; omega))
          rw [hm]
          clear h5 H4 hq0 hm
          go_wp2_with (at_builtin; refine append_has (W := W) (size := 1) (bytes := 24) (z := .slice none 0 0) (e := 51) (n := m) (xs := OV.map (·.1)) (news := [.slice (some ⟨g3, 0, none⟩) q.length vc]) rfl rfl Try.underlying22 (by kernel_rfl) rfl (by decide) rfl rfl (H5.out.step (by (repeat first | exact Fr.refl _ _ | assumption | apply Fr.n | apply Fr.d | apply Fr.a | refine Fr.s ?_ (.inr (by simp; try omega)) _))) (by (repeat first | rw [if_pos (by omega)] | rw [if_neg (by omega)] | rw [hp_drew] | rw [hp_drewN] | rw [hp_alloc_size] | rw [hp_setCell_size] | rw [hp_alloc] | rw [hp_setCell] | rw [oMS] | rw [upd_cells] | rw [lSZ] | rw [lSS] | rfl)) rfl (by simp [Value.oneCell']) HLB.out.1 HLB.out.2 ?_)
          intro g5 cap5 w5 h6 hf5 hg5
          have h8 := Has.layNew (R := rowC) (l := OV) (b := (.slice (some ⟨g3, 0, none⟩) q.length vc, q)) (h6.ord 3 [1, 2, 0])
          have H6 := Lib.hid (h8.ord 2 [1, 0])
          clear h6 hf5 hg5 h8 H5
          go_wp2
          go_roundg (n - (i + 1))
          case measure => omega
          case rel =>
            refine ⟨i + 1, OV ++ [(.slice (some ⟨g3, 0, none⟩) q.length vc, q)], some ⟨g5, 0, none⟩, cap5, hin, Nat.le_refl _, ?_, by simp, Lib.hid ⟨?_, ?_⟩, Lib.hid ?_⟩
            · rw [List.length_append, HM.out]; rfl
            · rw [List.length_append]; have := HI.out.1; simp; omega
            · rw [List.map_append]; exact HE.out
            · rw [List.length_append, HM.out, List.map_append]
              exact H6.out
    · obtain rfl : i = n := by omega
      have HE := Lib.hid (show Sv.under cs x = some (OV.map (·.2)) from by
        rw [HI.out.2, List.drop_of_length_le (by rw [HN.out]; exact Nat.le_refl _)]
        simp [Sv.under])
      clear HI
      go_wp2
      go_ret2
      exact .inr ⟨OV, oa, oc, HE.out, rfl, H.out.ord 3 [0, 1]⟩
end Go.Proofs.Ytjidldfnlejdhaa
end

section
/- solve: counting: what is added up. -/
namespace Go.Proofs.Ytjidldfnlejdhaa
open Go Go.RowKit Go.Proofs.Rg Go.Proofs.Mp Go.Proofs.Hp Go.Proofs.Sv Go.Proofs.Bn
set_option linter.unusedVariables false
set_option linter.unusedSimpArgs false
/-- the sum so far and whether it failed -/
def CsL (eb sb : Nat) (er : Int) (v : Nat) (a : Option Addr) (c : Nat) (Ps : List Res) : List Res :=
  Hp.blk eb (.cells #[.int .i64 er] 28 (0, 0)) :: Hp.blk sb (.cells #[.bool false, .slice a (zd (v : Int)).length c] 41 (0, 0)) :: natR v a c :: Ps
def CsI (T : Nat) (er : Int) (v : Nat) : Prop := v < limB ∧ ((T < limB ∧ er = 0 ∧ v = T) ∨ (limB ≤ T ∧ er = 6))
def CsAt (W w : World) (eb sb : Nat) (Ps : List Res) (T : Nat) : Prop := ∃ er v a c, Has W w (CsL eb sb er v a c Ps) ∧ CsI T er v
set_option maxHeartbeats 8000000 in
set_option maxRecDepth 100000 in
theorem add_calls {W w : World} {Ps : List Res} {eb sb T n : Nat} (h : CsAt W w eb sb Ps T) (hn : n ≤ 100000) :
    Calls Try.prog 41 #[.int .i64 (n : Int), .pointer (some ⟨eb, 0, none⟩), .pointer (some ⟨sb, 0, none⟩)] w fun e w' => e = .returned (.tuple #[]) ∧ CsAt W w' eb sb Ps (T + 2 ^ n) := by
  obtain ⟨er, v, a, c, h, hv, hi⟩ := h
  obtain ⟨N, hN⟩ : ∃ N, 2 ^ n = N := ⟨_, rfl⟩
  have H := Lib.hid h
  have hl0 : 0 < limB := Nat.pow_pos (by omega)
  have HV := Lib.hid hv
  have HSH := Lib.hid (fun (w1 : World) (Qs : List Res) (va : Value) (h1 : Has W w1 Qs) (hz : BigZ w1 (fun _ => True) va 1) => hN ▸ Shift_n h1 hz (n := n) (by omega))
  rw [hN]
  clear h hN hn hv
  go_enter Try.func41, Try.ntmps41
  go_wp2_with fail
  refine (From_n (x := 1) H.out (by omega)).mono ?_
  rintro e w1 ⟨a1, c1, rfl, h1⟩
  have H1 := Lib.hid h1
  clear h1 H
  go_wp2_with fail
  refine (HSH.out _ _ _ H1.out (nat_z (v := 1) (a := a1) (c := c1) H1.out (by simp))).mono ?_
  rintro e w2 ⟨u, e2, a2, c2, rfl, h2, hu, hor⟩
  unfold CsL at h2
  have hb := (h2.bring 2).blk
  have f0 : _ = some _ := heap_eq_cell hb 0
  have fz0 := heap_eq_frozen hb 0
  have fl := lt_of_block hb
  have hne := World.new_ne w2 _ f0
  have hb := (h2.bring 3).blk
  have s0 : _ = some _ := heap_eq_cell hb 0
  have s1 : _ = some _ := heap_eq_cell hb 1
  have sz0 := heap_eq_frozen hb 0
  have sz1 := heap_eq_frozen hb 1
  have sl := lt_of_block hb
  have hne2 := World.new_ne w2 _ s0
  have H2 := Lib.hid h2
  have HU := Lib.hid hu
  clear h2 hu H1 hb HSH
  unfold bgv
  rcases hor with ⟨hN1, rfl, rfl⟩ | ⟨hN1, rfl⟩
  · rcases hi with ⟨hT, rfl, rfl⟩ | ⟨hT, rfl⟩
    · have H3 := Lib.hid (H2.out.newBlk (.cells #[.bool false, .slice a2 (zd (u : Int)).length c2] 41 (0, 0)))
      have HZ1 := Lib.hid (nat_z (v := v) (a := a) (c := c) H2.out (by simp))
      have HZ2 := Lib.hid (nat_z (v := u) (a := a2) (c := c2) H2.out (by simp))
      unfold bgv at HZ1 HZ2
      clear hN1 hT
      go_wp2_with fail
      refine (Add_n (H3.out.step (by (repeat first | exact Fr.refl _ _ | assumption | apply Fr.n | apply Fr.d | apply Fr.a | refine Fr.s ?_ (.inr (by simp; try omega)) _))) (HZ1.out.fr0 (by (repeat first | exact Fr.refl _ _ | assumption | apply Fr.n | apply Fr.d | apply Fr.a | refine Fr.s ?_ (.inr (by simp; try omega)) _))) (HZ2.out.fr0 (by (repeat first | exact Fr.refl _ _ | assumption | apply Fr.n | apply Fr.d | apply Fr.a | refine Fr.s ?_ (.inr (by simp; try omega)) _))) HV.out HU.out).mono ?_
      rintro e w5 ⟨v', e5, a5, c5, rfl, h5, hv', hor⟩
      unfold bgv
      have hb := (h5.bring 4).blk
      clear f0 fz0 fl s0 s1 sz0 sz1 sl hne hne2
      have f0 : _ = some _ := heap_eq_cell hb 0
      have fz0 := heap_eq_frozen hb 0
      have fl := lt_of_block hb
      have hb := (h5.bring 5).blk
      have s0 : _ = some _ := heap_eq_cell hb 0
      have s1 : _ = some _ := heap_eq_cell hb 1
      have sz0 := heap_eq_frozen hb 0
      have sz1 := heap_eq_frozen hb 1
      have sl := lt_of_block hb
      have hfs : eb ≠ sb := (h5.ord 6 [4, 5]).bb
      have H5 := Lib.hid h5
      have HV5 := Lib.hid hv'
      clear h5 hb H3 H2 HZ1 HZ2 hv'
      rcases hor with ⟨hlt, rfl, rfl⟩ | ⟨hge, rfl⟩
      · have H6 := Lib.hid ((((H5.out.bring 5).blkSet 0 (.bool false)).blkSet 1 (.slice a5 (zd ((v + u : Nat) : Int)).length c5)).ord 7 [5, 0, 1])
        have HE := Lib.hid hlt
        clear H5 hlt
        go_wp2
        go_end0
        exact ⟨rfl, 0, _, a5, c5, H6.out, HV5.out, .inl ⟨HE.out, rfl, rfl⟩⟩
      · have H6 := Lib.hid ((((((H5.out.bring 5).blkSet 0 (.bool false)).blkSet 1 (.slice a5 (zd (v' : Int)).length c5)).bring 5).blkSet 0 (.int .i64 6)).ord 7 [0, 1, 2])
        have HE := Lib.hid hge
        clear H5 hge
        go_wp2
        go_end0
        exact ⟨rfl, 6, _, a5, c5, H6.out, HV5.out, .inr ⟨HE.out, rfl⟩⟩
    · have H3 := Lib.hid (H2.out.ord 5 [2, 3, 4])
      have HE := Lib.hid (show limB ≤ T + u by omega)
      clear hN1 hT H2
      go_wp2
      go_end0
      exact ⟨rfl, 6, v, a, c, H3.out.step (by (repeat first | exact Fr.refl _ _ | assumption | apply Fr.n | apply Fr.d | apply Fr.a | refine Fr.s ?_ (.inr (by simp; try omega)) _)), HV.out, .inr ⟨HE.out, rfl⟩⟩
  · have H3 := Lib.hid (((H2.out.bring 2).blkSet 0 (.int .i64 6)).ord 5 [0, 3, 4])
    have HE := Lib.hid (show limB ≤ T + N by omega)
    clear hN1 hi H2
    go_wp2
    go_end0
    exact ⟨rfl, 6, v, a, c, H3.out.step (by (repeat first | exact Fr.refl _ _ | assumption | apply Fr.n | apply Fr.d | apply Fr.a | refine Fr.s ?_ (.inr (by simp; try omega)) _)), HV.out, .inr ⟨HE.out, rfl⟩⟩
end Go.Proofs.Ytjidldfnlejdhaa
end

section
/- solve: counted. -/
namespace Go.Proofs.Sv
set_option linter.unusedVariables false
set_option linter.unusedSimpArgs false
theorem under_len {x : Int} : ∀ {cs r : List (List Int)}, under cs x = some r → r.length ≤ cs.length
  | [], r, h => by cases h; simp
  | c :: cs, r, h => by
    unfold under at h
    split at h
    · have := under_len h; simp; omega
    · split at h
      · cases h
      · obtain ⟨r', hr, rfl⟩ := Option.map_eq_some_iff.1 h
        have := under_len hr; simp; omega
/-- what a literal adds -/
def lvs (n : Nat) (cs : List (List Int)) (x : Int) : Nat := sum2 (match under cs x with | none => [] | some r => leaves n r)
theorem lvs_none {n : Nat} {cs : List (List Int)} {x : Int} (h : under cs x = none) : lvs n cs x = 0 := by unfold lvs; rw [h]; rfl
theorem lvs_some {n : Nat} {cs r : List (List Int)} {x : Int} (h : under cs x = some r) : lvs n cs x = sum2 (leaves n r) := by unfold lvs; rw [h]
theorem leaves_lvs {n : Nat} {cs : List (List Int)} (h : cs ≠ []) : sum2 (leaves (n + 1) cs) = lvs n cs (pickL cs) + lvs n cs (-pickL cs) := by
  cases cs with
  | nil => exact absurd rfl h
  | cons c cs => rw [leaves, sum2_append]; rfl
end Go.Proofs.Sv
namespace Go.Proofs.Ytjidldfnlejdhaa
open Go Go.RowKit Go.Proofs.Rg Go.Proofs.Mp Go.Proofs.Hp Go.Proofs.Sv Go.Proofs.Bn
set_option linter.unusedVariables false
structure CtHyp (V n : Nat) (cs : List (List Int)) : Prop where
  over : Over V n cs
  len : ∀ r ∈ cs, r ≠ [] ∧ r.length ≤ 1000000
  num : cs.length ≤ 262144
  hV : V ≤ 65536
theorem CtHyp.lit {V n : Nat} {cs : List (List Int)} (h : CtHyp V n cs) {r : List Int} (hr : r ∈ cs) {x : Int} (hx : x ∈ r) : x ≠ 0 ∧ x.natAbs ≤ V := by
  obtain ⟨_, hz, us, _, _, h3, h4⟩ := h.over
  exact ⟨hz r hr x hx, (h3 _ (h4 r hr x hx)).2⟩
theorem CtHyp.next {V n : Nat} {cs r : List (List Int)} {x : Int} (h : CtHyp V (n + 1) cs) (hx : ∃ c ∈ cs, x ∈ c ∨ -x ∈ c) (hu : Sv.under cs x = some r) : CtHyp V n r :=
  ⟨h.over.under hx hu, fun d hd => by
    obtain ⟨h1, c, hc, _, rfl⟩ := under_mem hu d hd
    exact ⟨h1, Nat.le_trans (List.length_filter_le _ _) (h.len c hc).2⟩, Nat.le_trans (under_len hu) h.num, h.hV⟩
theorem under_src {W : World} {Qs : List Res} {OV : List (Value × List Int)} {oa : Option Addr} {oc : Nat} (hl : ∀ q ∈ OV, q.2.length ≤ 9223372036854775807) (hn : OV.length ≤ 9223372036854775807) :
    FormSrc W (Hp.row 51 1 (.slice oa OV.length oc) OV.length (OV.map (·.1)) :: bun (OV.map rowC) :: Qs) oa oc (OV.map (·.2)) := by
  have h0 : FormHs W Qs none 0 [] [] := ⟨fun w Qs' hw _ => ⟨⟨rfl, none, 0, rfl, fun h => absurd h (by simp)⟩, fun i r hi => by simp at hi⟩, by simp, by simp⟩
  have h1 := h0.grown (a' := oa) (c' := oc) (k := OV.length) (OV := OV) (by simp) hn hl
  rw [List.nil_append, List.nil_append] at h1
  exact h1.src
def CtAt (W : World) (V eb sb n : Nat) : Prop :=
  ∀ ⦃w : World⦄ ⦃Ps : List Res⦄ ⦃T : Nat⦄ ⦃a : Option Addr⦄ ⦃c : Nat⦄ ⦃cs : List (List Int)⦄ (h : CsAt W w eb sb Ps T) (hF : FormSrc W Ps a c cs) (hy : CtHyp V n cs),
    Calls Try.prog 40 #[.slice a cs.length c, .int .i64 (n : Int), .func (.func 41) #[] #[.pointer (some ⟨eb, 0, none⟩), .pointer (some ⟨sb, 0, none⟩)]] w fun e w' => e = .returned (.tuple #[]) ∧ CsAt W w' eb sb Ps (T + sum2 (leaves n cs))
set_option maxHeartbeats 8000000 in
theorem counted_nil {W : World} {V eb sb n : Nat} {w : World} {Ps : List Res} {T : Nat} {a : Option Addr} {c : Nat} (h : CsAt W w eb sb Ps T) (hn : n ≤ 65536) :
    Calls Try.prog 40 #[.slice a 0 c, .int .i64 (n : Int), .func (.func 41) #[] #[.pointer (some ⟨eb, 0, none⟩), .pointer (some ⟨sb, 0, none⟩)]] w fun e w' => e = .returned (.tuple #[]) ∧ CsAt W w' eb sb Ps (T + sum2 (leaves n [])) := by
  have e1 : sum2 (leaves n []) = 2 ^ n := by simp [leaves, sum2]
  rw [e1]
  have HA := Lib.hid (add_calls h (n := n) (by omega))
  clear h e1
  go_enter Try.func40, Try.ntmps40
  go_wp2_with (go_at_call 41; refine HA.out.mono ?_; rintro e w1 ⟨rfl, h1⟩)
  go_wp2
  (try simp only [Exit.inBlock, Exit.then])
  refine bodyPost_ret (results_none rfl _ _ _) rfl ⟨rfl, h1⟩
theorem pick_unit {cs : List (List Int)} {i : Nat} {x : Int} (hi : cs[i]? = some [x]) (hn : ∀ j r, j < i → cs[j]? = some r → r.length ≠ 1) : pickL cs = x := by
  unfold pickL
  have h : cs.find? (fun c => c.length == 1) = some [x] := by
    rw [List.find?_eq_some_iff_getElem]
    obtain ⟨hl, he⟩ := List.getElem?_eq_some_iff.1 hi
    refine ⟨rfl, i, hl, he, fun j hj => ?_⟩
    have := hn j _ hj (List.getElem?_eq_getElem (by omega))
    simpa using this
  rw [h]; rfl
theorem pick_head {c : List Int} {cs : List (List Int)} {x : Int} (hn : ∀ r ∈ (x :: c) :: cs, r.length ≠ 1) : pickL ((x :: c) :: cs) = x := by
  unfold pickL
  have h : ((x :: c) :: cs).find? (fun c => c.length == 1) = none := by
    rw [List.find?_eq_none]
    intro r hr
    simpa using hn r hr
  rw [h]; rfl
theorem no_unit {cs : List (List Int)} (h : ¬ ∃ i x, cs[i]? = some [x] ∧ ∀ (j : Nat) (r : List Int), j < i → cs[j]? = some r → r.length ≠ 1) : ∀ r ∈ cs, r.length ≠ 1 := fun r hr hl => by
  cases hf : cs.find? (fun c => c.length == 1) with
  | none =>
    rw [List.find?_eq_none] at hf
    exact hf r hr (by simpa using hl)
  | some r' =>
    obtain ⟨h1, i, hi, he, hm⟩ := List.find?_eq_some_iff_getElem.1 hf
    obtain ⟨x, rfl⟩ : ∃ x, r' = [x] := by
      have h1 : r'.length = 1 := by simpa using h1
      exact List.length_eq_one_iff.1 h1
    refine h ⟨i, x, by rw [List.getElem?_eq_getElem hi, he], fun j r hj hr => ?_⟩
    have := hm j hj
    obtain ⟨hjl, hje⟩ := List.getElem?_eq_some_iff.1 hr
    rw [hje] at this
    simpa using this
set_option maxHeartbeats 16000000 in
set_option maxRecDepth 100000 in
theorem counted_succ {W : World} {V eb sb n : Nat} (ih : CtAt W V eb sb n) : CtAt W V eb sb (n + 1) := by
  intro w Ps T a c cs h hF hy
  by_cases hcs : cs = []
  · subst hcs
    exact counted_nil (V := V) h (by have := hy.over.le; have := hy.hV; omega)
  have HY := Lib.hid hy
  have HF := Lib.hid hF
  have IH := Lib.hid (show CtAt W V eb sb n from ih)
  have H := Lib.hid h
  obtain ⟨p, hp⟩ : ∃ p, pickL cs = p := ⟨_, rfl⟩
  have HL := Lib.hid (hp ▸ leaves_lvs (n := n) hcs)
  obtain ⟨d, hd, hpd⟩ := hp ▸ pickL_mem hcs hy.over.1
  have hpl := hy.lit hd hpd
  have HPD := Lib.hid (show ∃ c ∈ cs, p ∈ c from ⟨d, hd, hpd⟩)
  have HP := Lib.hid hp
  obtain ⟨S, hS⟩ : ∃ S, sum2 (leaves (n + 1) cs) = S := ⟨_, rfl⟩
  rw [hS] at HL ⊢
  obtain ⟨m, hm⟩ : ∃ m, cs.length = m := ⟨_, rfl⟩
  have hm0 : 0 < m := by rw [← hm]; exact List.length_pos_iff.2 hcs
  have hm6 : m ≤ 262144 := by rw [← hm]; exact hy.num
  have HM := Lib.hid hm
  rw [hm]
  obtain ⟨fr, hfr⟩ : ∃ z : Int, ((n + 1 : Nat) : Int) = z := ⟨_, rfl⟩
  have hnV := hy.over.le
  have hV6 := hy.hV
  have hw1 : IntKind.i64.wrap (fr - 1) = ((n : Nat) : Int) := by rw [IntWalk.i64_in _ (by omega)]; omega
  have hw2 : IntKind.i64.wrap (-p) = -p := IntWalk.i64_in _ (by omega)
  rw [hfr]
  obtain ⟨r0, hr0⟩ : ∃ r, cs[0]? = some r := ⟨_, List.getElem?_eq_getElem (by omega)⟩
  obtain ⟨hr0n, hr0l⟩ := hy.len r0 (List.mem_of_getElem? hr0)
  obtain ⟨x0, r0t, rfl⟩ : ∃ x t, r0 = x :: t := by
    cases r0 with
    | nil => exact absurd rfl hr0n
    | cons x t => exact ⟨x, t, rfl⟩
  have HR0 := Lib.hid hr0
  have HPB := Lib.hid (show p ≠ 0 ∧ p.natAbs ≤ 65536 by omega)
  clear hm hfr hnV hV6 h hF hy hcs hS hp hd hpd hpl ih hr0n hr0
  obtain ⟨er, v, va, vc, h, hi⟩ := H.out
  have hfa := HF.out w _ h fun P hP => by simp [CsL, hP]
  obtain ⟨g, off, ra, rc, hae, hgl, hc, hri⟩ := hfa.1.row HR0.out
  subst hae
  obtain ⟨g2, off2, rfl, hgl2, hc2⟩ := IntsAt.get hri (i := 0) (x := x0) rfl
  have hm0' : ((m : Int) == 0) = false := by simp; omega
  have hr0p : (0 : Int) < (x0 :: r0t).length := by simp
  have HI := Lib.hid hi
  have H0 := Lib.hid h
  rw [Nat.add_zero] at hc hc2
  have HROW := Lib.hid hfa.1
  clear hfa hri h hi
  by_cases hun : ∃ i x, cs[i]? = some [x] ∧ ∀ (j : Nat) (r : List Int), j < i → cs[j]? = some r → r.length ≠ 1
  · obtain ⟨i0, x1, hi0, hmin⟩ := hun
    have hpx : p = x1 := by rw [← HP.out]; exact pick_unit hi0 hmin
    subst hpx
    go_enter Try.func40, Try.ntmps40
    go_wp2
    have hi0m : i0 < m := by have := (List.getElem?_eq_some_iff.1 hi0).1; rw [HM.out] at this; exact this
    have HIU := Lib.hid (And.intro hi0 hmin)
    clear hi0 hmin
    go_loopg [6, 26] m (fun gg z6 z wr => ∃ i : Nat, i ≤ i0 ∧ m - i ≤ gg ∧ z6 = .int .i64 x0 ∧ z = .int .i64 (i : Int) ∧ wr = w)
    case atStart => exact ⟨0, by omega, by omega, rfl, rfl, rfl⟩
    case round =>
      obtain ⟨i, hi, hg, rfl, rfl, hwr⟩ := hrel
      subst wr
      have him : i < m := by omega
      obtain ⟨r, hr⟩ : ∃ r, cs[i]? = some r := ⟨_, List.getElem?_eq_getElem (by rw [HM.out]; exact him)⟩
      obtain ⟨g', off', ra, rc', hae, hgl', hci, hri⟩ := HROW.out.row hr
      cases hae
      by_cases hii : i < i0
      · have hrl : ((r.length : Int) == 1) = false := by have := HIU.out.2 i r hii hr; simp; omega
        clear hri
        go_wp2
        go_roundg (m - (i + 1))
        case measure => omega
        case rel => exact ⟨i + 1, by omega, Nat.le_refl _, rfl, by simp, rfl⟩
      · obtain rfl : i = i0 := by omega
        obtain rfl : r = [p] := Option.some.inj (hr.symm.trans HIU.out.1)
        obtain ⟨g4, off4, rfl, hgl4, hc4⟩ := IntsAt.get hri (i := 0) (x := p) rfl
        rw [Nat.add_zero] at hc4
        have hrl : (((([p] : List Int).length : Nat) : Int) == 1) = true := rfl
        clear hri hr
        go_wp2
        obtain ⟨q, hq⟩ : ∃ q, w.heap.size = q := ⟨_, rfl⟩
        have h2 := (H0.out.newBlk (.cells #[.int .i64 p, .int .i64 (-p)] 3 (0, 0))).ord 4 [1, 2, 3, 0]
        rw [hq] at h2 ⊢
        have H2 := Lib.hid (show CsAt W _ eb sb (Hp.blk q (.cells #[.int .i64 p, .int .i64 (-p)] 3 (0, 0)) :: Ps) T from ⟨er, v, va, vc, h2, HI.out⟩)
        clear h2 hq H0 HROW hc hc2 hgl hgl2
        go_loopg [42] 2 (fun gg z wr => ∃ (i Ti : Nat), i ≤ 2 ∧ 2 - i ≤ gg ∧ z = .int .i64 (i : Int) ∧ Hid (Ti = T + (if 0 < i then lvs n cs p else 0) + (if 1 < i then lvs n cs (-p) else 0)) ∧ Hid (CsAt W wr eb sb (Hp.blk q (.cells #[.int .i64 p, .int .i64 (-p)] 3 (0, 0)) :: Ps) Ti))
        case atStart => exact ⟨0, T, by omega, by omega, rfl, Lib.hid (by simp), H2⟩
        case round =>
          obtain ⟨i, Ti, hi2, hg, rfl, HTI, HC⟩ := hrel
          clear H2
          obtain ⟨er2, v2, va2, vc2, h, hi⟩ := HC.out
          unfold CsL at h
          have H := Lib.hid h
          have HI2 := Lib.hid hi
          by_cases hi1 : i < 2
          · obtain ⟨x, hx⟩ : ∃ x : Int, (if i = 0 then p else -p) = x := ⟨_, rfl⟩
            have hb := (h.bring 3).blk
            have q0 := heap_eq_cell hb i
            have ql := lt_of_block hb
            rw [show (#[Value.int .i64 p, .int .i64 (-p)] : Array Value)[i]? = some (.int .i64 x) from by
              have : i = 0 ∨ i = 1 := by omega
              rcases this with rfl | rfl <;> simp at hx <;> simp [hx]] at q0
            have hxm : ∃ c ∈ cs, x ∈ c ∨ -x ∈ c := by
              obtain ⟨d, hd, hpd⟩ := HPD.out
              refine ⟨d, hd, ?_⟩
              rw [← hx]
              split
              · exact .inl hpd
              · exact .inr (by rw [Int.neg_neg]; exact hpd)
            have hxb : -1000000 ≤ x ∧ x ≤ 1000000 := by
              have := HPB.out
              rw [← hx]
              split <;> omega
            have HU := Lib.hid (fun w' (hf : Fr [] wr w') => under_calls (H.out.step hf) (a := some ⟨g, off, none⟩) (c := c) (cs := cs) (FormSrc.more HF.out fun P hP => by simp [hP]) HY.out.len (by have := HY.out.num; omega) hxb)
            rw [HM.out] at HU
            have HXM := Lib.hid hxm
            have HX := Lib.hid hx
            clear h hi hb hxm hxb hx HC
            go_wp2_with fail
            refine (HU.out _ (by (repeat first | exact Fr.refl _ _ | assumption | apply Fr.n | apply Fr.d | apply Fr.a | refine Fr.s ?_ (.inr (by simp; try omega)) _))).mono ?_
            rintro e w3 h3
            rcases h3 with ⟨hu, rfl, h3⟩ | ⟨OV, oa, oc, hu, rfl, h3⟩
            · have HT2 := Lib.hid (show Ti = T + (if 0 < i + 1 then lvs n cs p else 0) + (if 1 < i + 1 then lvs n cs (-p) else 0) from by
                have h0 := HTI.out
                have h1 := lvs_none (n := n) hu
                have h2 := HX.out
                have : i = 0 ∨ i = 1 := by omega
                rcases this with rfl | rfl
                · simp at h0 h2; subst h2; simp [h0, h1]
                · simp at h0 h2; subst h2; simp [h0, h1])
              have H3 := Lib.hid h3
              clear hu h3 H HU q0 ql
              go_wp2
              go_roundg (2 - (i + 1))
              case measure => omega
              case rel => exact ⟨i + 1, Ti, by omega, Nat.le_refl _, by simp, HT2, Lib.hid ⟨er2, v2, va2, vc2, H3.out, HI2.out⟩⟩
            · have hy2 := HY.out.next HXM.out hu
              have HSC := Lib.hid (under_src (W := W) (Qs := Hp.blk q (.cells #[.int .i64 p, .int .i64 (-p)] 3 (0, 0)) :: Ps) (OV := OV) (oa := oa) (oc := oc) (fun q' hq' => by have := (hy2.len q'.2 (List.mem_map_of_mem hq')).2; omega) (by have := hy2.num; rw [List.length_map] at this; omega))
              have HC3 := Lib.hid (IH.out (w := w3) (Ps := Hp.row 51 1 (.slice oa OV.length oc) OV.length (OV.map (·.1)) :: bun (OV.map rowC) :: Hp.blk q (.cells #[.int .i64 p, .int .i64 (-p)] 3 (0, 0)) :: Ps) (T := Ti) (a := oa) (c := oc) (cs := OV.map (·.2)) ⟨er2, v2, va2, vc2, h3.ord 5 [2, 3, 4, 0, 1], HI2.out⟩ HSC.out hy2)
              rw [List.length_map] at HC3
              have HT2 := Lib.hid (show Ti + sum2 (leaves n (OV.map (·.2))) = T + (if 0 < i + 1 then lvs n cs p else 0) + (if 1 < i + 1 then lvs n cs (-p) else 0) from by
                have h0 := HTI.out
                have h1 := lvs_some (n := n) hu
                have h2 := HX.out
                have : i = 0 ∨ i = 1 := by omega
                rcases this with rfl | rfl
                · simp at h0 h2; subst h2; simp [h0, h1]
                · simp at h0 h2; subst h2; simp [h0, h1])
              obtain ⟨T2, hT2⟩ : ∃ z, Ti + sum2 (leaves n (OV.map (·.2))) = z := ⟨_, rfl⟩
              rw [hT2] at HC3 HT2
              clear hu h3 H HU q0 ql hy2 HSC hT2
              go_wp2_with fail
              refine HC3.out.mono ?_
              rintro e w4 ⟨rfl, er3, v3, va3, vc3, h4, hi4⟩
              have H4 := Lib.hid (show CsAt W w4 eb sb (Hp.blk q (.cells #[.int .i64 p, .int .i64 (-p)] 3 (0, 0)) :: Ps) T2 from ⟨er3, v3, va3, vc3, by unfold CsL at h4 ⊢; exact h4.ord 5 [0, 1, 2], hi4⟩)
              clear h4 hi4 HC3
              go_wp2
              go_roundg (2 - (i + 1))
              case measure => omega
              case rel => exact ⟨i + 1, T2, by omega, Nat.le_refl _, by simp, HT2, H4⟩
          · obtain rfl : i = 2 := by omega
            have HTE := Lib.hid (show Ti = T + S from by rw [HTI.out, HL.out]; simp [Nat.add_assoc])
            clear h hi
            go_wp2
            go_end0
            refine ⟨rfl, er2, v2, va2, vc2, ?_, ?_⟩
            · unfold CsL
              exact H.out.ord 4 [0, 1, 2]
            · rw [← HTE.out]; exact HI2.out
  · have hpx : p = x0 := by
      rw [← HP.out]
      cases cs with
      | nil => exfalso; have := HM.out; simp at this; omega
      | cons c0 cs =>
        have h0 := HR0.out
        simp only [List.getElem?_cons_zero, Option.some.injEq] at h0
        subst h0
        exact pick_head (no_unit hun)
    subst hpx
    have HNU := Lib.hid (no_unit hun)
    clear hun
    go_enter Try.func40, Try.ntmps40
    go_wp2
    go_loopg [6, 26] m (fun gg z6 z wr => ∃ i : Nat, i ≤ m ∧ m - i ≤ gg ∧ z6 = .int .i64 p ∧ z = .int .i64 (i : Int) ∧ wr = w)
    case atStart => exact ⟨0, by omega, by omega, rfl, rfl, rfl⟩
    case round =>
      obtain ⟨i, hi, hg, rfl, rfl, hwr⟩ := hrel
      subst wr
      by_cases him : i < m
      · obtain ⟨r, hr⟩ : ∃ r, cs[i]? = some r := ⟨_, List.getElem?_eq_getElem (by rw [HM.out]; exact him)⟩
        obtain ⟨g', off', ra, rc', hae, hgl', hci, hri⟩ := HROW.out.row hr
        cases hae
        have hrl : ((r.length : Int) == 1) = false := by have := HNU.out r (List.mem_of_getElem? hr); simp; omega
        clear hri hr
        go_wp2
        go_roundg (m - (i + 1))
        case measure => omega
        case rel => exact ⟨i + 1, by omega, Nat.le_refl _, rfl, by simp, rfl⟩
      · obtain rfl : i = m := by omega
        go_wp2
        obtain ⟨q, hq⟩ : ∃ q, w.heap.size = q := ⟨_, rfl⟩
        have h2 := (H0.out.newBlk (.cells #[.int .i64 p, .int .i64 (-p)] 3 (0, 0))).ord 4 [1, 2, 3, 0]
        rw [hq] at h2 ⊢
        have H2 := Lib.hid (show CsAt W _ eb sb (Hp.blk q (.cells #[.int .i64 p, .int .i64 (-p)] 3 (0, 0)) :: Ps) T from ⟨er, v, va, vc, h2, HI.out⟩)
        clear h2 hq H0 HROW hc hc2 hgl hgl2
        go_loopg [42] 2 (fun gg z wr => ∃ (i Ti : Nat), i ≤ 2 ∧ 2 - i ≤ gg ∧ z = .int .i64 (i : Int) ∧ Hid (Ti = T + (if 0 < i then lvs n cs p else 0) + (if 1 < i then lvs n cs (-p) else 0)) ∧ Hid (CsAt W wr eb sb (Hp.blk q (.cells #[.int .i64 p, .int .i64 (-p)] 3 (0, 0)) :: Ps) Ti))
        case atStart => exact ⟨0, T, by omega, by omega, rfl, Lib.hid (by simp), H2⟩
        case round =>
          obtain ⟨i, Ti, hi2, hg, rfl, HTI, HC⟩ := hrel
          clear H2
          obtain ⟨er2, v2, va2, vc2, h, hi⟩ := HC.out
          unfold CsL at h
          have H := Lib.hid h
          have HI2 := Lib.hid hi
          by_cases hi1 : i < 2
          · obtain ⟨x, hx⟩ : ∃ x : Int, (if i = 0 then p else -p) = x := ⟨_, rfl⟩
            have hb := (h.bring 3).blk
            have q0 := heap_eq_cell hb i
            have ql := lt_of_block hb
            rw [show (#[Value.int .i64 p, .int .i64 (-p)] : Array Value)[i]? = some (.int .i64 x) from by
              have : i = 0 ∨ i = 1 := by omega
              rcases this with rfl | rfl <;> simp at hx <;> simp [hx]] at q0
            have hxm : ∃ c ∈ cs, x ∈ c ∨ -x ∈ c := by
              obtain ⟨d, hd, hpd⟩ := HPD.out
              refine ⟨d, hd, ?_⟩
              rw [← hx]
              split
              · exact .inl hpd
              · exact .inr (by rw [Int.neg_neg]; exact hpd)
            have hxb : -1000000 ≤ x ∧ x ≤ 1000000 := by
              have := HPB.out
              rw [← hx]
              split <;> omega
            have HU := Lib.hid (fun w' (hf : Fr [] wr w') => under_calls (H.out.step hf) (a := some ⟨g, off, none⟩) (c := c) (cs := cs) (FormSrc.more HF.out fun P hP => by simp [hP]) HY.out.len (by have := HY.out.num; omega) hxb)
            rw [HM.out] at HU
            have HXM := Lib.hid hxm
            have HX := Lib.hid hx
            clear h hi hb hxm hxb hx HC
            go_wp2_with fail
            refine (HU.out _ (by (repeat first | exact Fr.refl _ _ | assumption | apply Fr.n | apply Fr.d | apply Fr.a | refine Fr.s ?_ (.inr (by simp; try omega)) _))).mono ?_
            rintro e w3 h3
            rcases h3 with ⟨hu, rfl, h3⟩ | ⟨OV, oa, oc, hu, rfl, h3⟩
            · have HT2 := Lib.hid (show Ti = T + (if 0 < i + 1 then lvs n cs p else 0) + (if 1 < i + 1 then lvs n cs (-p) else 0) from by
                have h0 := HTI.out
                have h1 := lvs_none (n := n) hu
                have h2 := HX.out
                have : i = 0 ∨ i = 1 := by omega
                rcases this with rfl | rfl
                · simp at h0 h2; subst h2; simp [h0, h1]
                · simp at h0 h2; subst h2; simp [h0, h1])
              have H3 := Lib.hid h3
              clear hu h3 H HU q0 ql
              go_wp2
              go_roundg (2 - (i + 1))
              case measure => omega
              case rel => exact ⟨i + 1, Ti, by omega, Nat.le_refl _, by simp, HT2, Lib.hid ⟨er2, v2, va2, vc2, H3.out, HI2.out⟩⟩
            · have hy2 := HY.out.next HXM.out hu
              have HSC := Lib.hid (under_src (W := W) (Qs := Hp.blk q (.cells #[.int .i64 p, .int .i64 (-p)] 3 (0, 0)) :: Ps) (OV := OV) (oa := oa) (oc := oc) (fun q' hq' => by have := (hy2.len q'.2 (List.mem_map_of_mem hq')).2; omega) (by have := hy2.num; rw [List.length_map] at this; omega))
              have HC3 := Lib.hid (IH.out (w := w3) (Ps := Hp.row 51 1 (.slice oa OV.length oc) OV.length (OV.map (·.1)) :: bun (OV.map rowC) :: Hp.blk q (.cells #[.int .i64 p, .int .i64 (-p)] 3 (0, 0)) :: Ps) (T := Ti) (a := oa) (c := oc) (cs := OV.map (·.2)) ⟨er2, v2, va2, vc2, h3.ord 5 [2, 3, 4, 0, 1], HI2.out⟩ HSC.out hy2)
              rw [List.length_map] at HC3
              have HT2 := Lib.hid (show Ti + sum2 (leaves n (OV.map (·.2))) = T + (if 0 < i + 1 then lvs n cs p else 0) + (if 1 < i + 1 then lvs n cs (-p) else 0) from by
                have h0 := HTI.out
                have h1 := lvs_some (n := n) hu
                have h2 := HX.out
                have : i = 0 ∨ i = 1 := by omega
                rcases this with rfl | rfl
                · simp at h0 h2; subst h2; simp [h0, h1]
                · simp at h0 h2; subst h2; simp [h0, h1])
              obtain ⟨T2, hT2⟩ : ∃ z, Ti + sum2 (leaves n (OV.map (·.2))) = z := ⟨_, rfl⟩
              rw [hT2] at HC3 HT2
              clear hu h3 H HU q0 ql hy2 HSC hT2
              go_wp2_with fail
              refine HC3.out.mono ?_
              rintro e w4 ⟨rfl, er3, v3, va3, vc3, h4, hi4⟩
              have H4 := Lib.hid (show CsAt W w4 eb sb (Hp.blk q (.cells #[.int .i64 p, .int .i64 (-p)] 3 (0, 0)) :: Ps) T2 from ⟨er3, v3, va3, vc3, by unfold CsL at h4 ⊢; exact h4.ord 5 [0, 1, 2], hi4⟩)
              clear h4 hi4 HC3
              go_wp2
              go_roundg (2 - (i + 1))
              case measure => omega
              case rel => exact ⟨i + 1, T2, by omega, Nat.le_refl _, by simp, HT2, H4⟩
          · obtain rfl : i = 2 := by omega
            have HTE := Lib.hid (show Ti = T + S from by rw [HTI.out, HL.out]; simp [Nat.add_assoc])
            clear h hi
            go_wp2
            go_end0
            refine ⟨rfl, er2, v2, va2, vc2, ?_, ?_⟩
            · unfold CsL
              exact H.out.ord 4 [0, 1, 2]
            · rw [← HTE.out]; exact HI2.out
theorem counted_calls {W : World} {V eb sb : Nat} : ∀ n, CtAt W V eb sb n
  | 0 => fun w Ps T a c cs h hF hy => by
    cases cs with
    | nil => exact counted_nil (V := V) h (by omega)
    | cons c0 cs => exact hy.over.pos.elim
  | n + 1 => counted_succ (counted_calls n)
end Go.Proofs.Ytjidldfnlejdhaa
end

section
/- The reference's Count. -/
namespace Go.Proofs.Sv
set_option linter.unusedVariables false
set_option linter.unusedSimpArgs false
theorem count_ext {u d : Nat} {cs : List (List Int)} {A : List Bool} (hL : Lits u cs) (hA : A.length = u) : (ext d A).countP (sat cs) = if sat cs A then 2 ^ d else 0 := by
  have hlen : ∀ (k : Nat) (l : List Bool), (ext k l).length = 2 ^ k := by
    intro k
    induction k with
    | zero => intro l; simp [ext]
    | succ k ih => intro l; rw [ext, List.length_append, ih, ih, Nat.pow_succ]; omega
  have hs : ∀ B ∈ ext d A, sat cs B = sat cs A := by
    intro B hB
    obtain ⟨r, _, rfl⟩ := ext_mem.1 hB
    exact sat_congr fun c hc y hy => litT_append (hL c hc y hy).1 (by rw [hA]; exact (hL c hc y hy).2)
  cases h : sat cs A with
  | true =>
    rw [if_pos rfl, ← hlen d A]
    exact List.countP_eq_length.2 fun B hB => by rw [hs B hB, h]
  | false =>
    rw [if_neg (by simp)]
    exact List.countP_eq_zero.2 fun B hB => by rw [hs B hB, h]; simp
theorem count_more {u V : Nat} {cs : List (List Int)} (hL : Lits u cs) (h : u ≤ V) : (ext V []).countP (sat cs) = (ext u []).countP (sat cs) * 2 ^ (V - u) := by
  have h1 := ext_add u (V - u) []
  rw [Nat.add_sub_cancel' h] at h1
  rw [h1]
  have key : ∀ l : List (List Bool), (∀ A ∈ l, A.length = u) → (l.flatMap (ext (V - u))).countP (sat cs) = l.countP (sat cs) * 2 ^ (V - u) := by
    intro l
    induction l with
    | nil => intro _; simp
    | cons A l ih =>
      intro hl
      rw [List.flatMap_cons, List.countP_append, ih fun B hB => hl B (by simp [hB]), count_ext hL (hl A (by simp)), List.countP_cons]
      split <;> simp [Nat.add_mul, Nat.add_comm]
  exact key _ fun A hA => by simpa using ext_length hA
def cntF (V : Nat) (cs : List (List Int)) : Nat := (ext V []).countP (sat cs)
theorem cntF_numR {u V : Nat} {cs : List (List Int)} (hL : Lits u cs) (h : u ≤ V) : cntF V cs = numR cs u [] * 2 ^ (V - u) := by
  unfold cntF
  rw [count_more hL h, numR_eq (k := u) (l := []) (by simpa using hL)]
end Go.Proofs.Sv
namespace Go.Proofs.Ytjidldfnlejdhaa
open Go Go.RowKit Go.Proofs.Rg Go.Proofs.Mp Go.Proofs.Hp Go.Proofs.Sv Go.Proofs.Bn
set_option linter.unusedVariables false
def CountPost (W : World) (Ps : List Res) (V : Nat) (cs : List (List Int)) (e : Ending) (w' : World) : Prop :=
  (rightF V cs = false ∧ e = .returned (.tuple #[.agg #[.bool false, .slice none 0 0], .int .i64 2]) ∧ Has W w' Ps) ∨
  (rightF V cs = true ∧ cntF V cs < limB ∧ ∃ a c, e = .returned (.tuple #[bgv (cntF V cs) a c, .int .i64 0]) ∧ Has W w' (natR (cntF V cs) a c :: Ps)) ∨
  (rightF V cs = true ∧ limB ≤ cntF V cs ∧ e = .returned (.tuple #[.agg #[.bool false, .slice none 0 0], .int .i64 6]) ∧ Has W w' Ps)
set_option maxHeartbeats 16000000 in
set_option maxRecDepth 100000 in
theorem RCount_calls {W w : World} {Ps : List Res} (h : Has W w Ps) {V : Nat} {a : Option Addr} {c : Nat} {cs : List (List Int)} (hF : FormSrc W Ps a c cs) (hs : ∀ r ∈ cs, r.length ≤ 1000000) (hK : rightF V cs = true → ∀ r ∈ cs, ∀ x ∈ r, x.natAbs ≤ 1000) :
    Calls Try.prog 21 #[.agg #[.int .i64 (V : Int), .slice a cs.length c]] w (CountPost W Ps V cs) := by
  have h1 := h.newBlk (.cells #[.int .i64 (V : Int), .slice a cs.length c] 24 (0, 0))
  have h2 := h1.newBlk (.cells #[.bool false, .slice none 0 0] 41 (0, 0))
  rw [hp_alloc_size] at h2
  have H0 := Lib.hid h2
  have HF := Lib.hid hF
  have HS := Lib.hid hs
  have HK := Lib.hid hK
  clear h hF hs hK h1 h2
  go_enter Try.func21, Try.ntmps21
  go_wp2_with fail
  refine (R40Right_calls (HF.out _ _ H0.out fun P hP => List.mem_cons_of_mem _ (List.mem_cons_of_mem _ hP))).mono ?_
  rintro e w1 ⟨rfl, hf1⟩
  obtain ⟨R, hR⟩ : ∃ R, rightF V cs = R := ⟨_, rfl⟩
  rw [hR]
  have H1 := Lib.hid (H0.out.step hf1)
  obtain ⟨fb, hfb⟩ : ∃ b, w.heap.size = b := ⟨_, rfl⟩
  rw [hfb] at H1 ⊢
  obtain ⟨rb, hrb⟩ : ∃ b, fb + 1 = b := ⟨_, rfl⟩
  rw [hrb] at H1 ⊢
  have HR := Lib.hid hR
  clear hf1 H0 hfb hrb hR
  cases R with
  | false =>
    have hb := H1.out.blk
    have r0 : _ = some _ := heap_eq_cell hb 0
    have r1 : _ = some _ := heap_eq_cell hb 1
    have rz0 := heap_eq_frozen hb 0
    have rz1 := heap_eq_frozen hb 1
    have rl := lt_of_block hb
    clear hb
    have H2 := Lib.hid ((H1.out.blkSet 0 (.bool false)).blkSet 1 (.slice none 0 0))
    clear H1
    go_wp2
    refine bodyPost_ret (big_result rfl (b := rb) (x := .bool false) (y := .slice none 0 0) (v := .int .i64 2) rfl ?_ rfl) rfl ?_
    · exact H2.out.blk
    · exact .inl ⟨HR.out, rfl, H2.out.drop.drop⟩
  | true =>
    obtain ⟨hcl, hV, hlit⟩ := rightF_len HR.out
    obtain ⟨n, hn⟩ : ∃ n, cs.length = n := ⟨_, rfl⟩
    rw [hn] at hcl H1 ⊢
    have HN := Lib.hid hn
    have HLT := Lib.hid hlit
    have HKK := Lib.hid (HK.out HR.out)
    have hb := (H1.out.bring 1).blk
    have c0 : _ = some _ := heap_eq_cell hb 0
    have c1 : _ = some _ := heap_eq_cell hb 1
    have cl := lt_of_block hb
    clear hb
    clear hlit hn
    go_wp2
    go_loopg [4, 5] n (fun gg z4 z wr => ∃ (i u : Nat), i ≤ n ∧ n - i ≤ gg ∧ z4 = .int .i64 (u : Int) ∧ z = .int .i64 (i : Int) ∧ u ≤ V ∧ u ≤ 1000 ∧ Hid (Fr [] w1 wr) ∧ Hid (∀ r ∈ cs.take i, ∀ x ∈ r, x.natAbs ≤ u))
    case atStart => exact ⟨0, 0, Nat.zero_le _, by omega, rfl, rfl, by omega, by omega, Lib.hid (by (repeat first | exact Fr.refl _ _ | assumption | apply Fr.n | apply Fr.d | apply Fr.a | refine Fr.s ?_ (.inr (by simp; try omega)) _)), Lib.hid (by simp)⟩
    case round =>
      obtain ⟨i, u, hi, hg, rfl, rfl, huV, huK, HW, HA⟩ := hrel
      have H2 := Lib.hid (H1.out.step HW.out)
      clear c0 c1 cl
      have hb := (H2.out.bring 1).blk
      have c0 : _ = some _ := heap_eq_cell hb 0
      have c1 : _ = some _ := heap_eq_cell hb 1
      have cl := lt_of_block hb
      clear hb
      by_cases hin : i < n
      · obtain ⟨r, hr⟩ : ∃ r, cs[i]? = some r := ⟨_, List.getElem?_eq_getElem (by rw [HN.out]; exact hin)⟩
        have hfa := HF.out wr _ H2.out fun P hP => List.mem_cons_of_mem _ (List.mem_cons_of_mem _ hP)
        obtain ⟨g, off, ra, rc, hae, hgl, hc, hri⟩ := hfa.1.row hr
        subst hae
        have hrl := HS.out r (List.mem_of_getElem? hr)
        have htk : cs.take (i + 1) = cs.take i ++ [r] := by rw [List.take_add_one, hr]; rfl
        have HTK := Lib.hid htk
        have HRI := Lib.hid (And.intro hri hr)
        obtain ⟨m, hm⟩ : ∃ m, r.length = m := ⟨_, rfl⟩
        rw [hm] at hrl hc
        have HM := Lib.hid hm
        have HC := Lib.hid hc
        obtain ⟨wo, hwo⟩ : ∃ wo, wr = wo := ⟨_, rfl⟩
        rw [hwo] at HW HRI HC hgl H2
        have HWO := Lib.hid hwo
        clear hfa htk hri hr hm hwo
        go_wp2
        clear c0 c1 cl hc
        go_loopg [4, 6] m (fun gg z4 z wq => ∃ (k v : Nat), k ≤ m ∧ m - k ≤ gg ∧ z4 = .int .i64 (v : Int) ∧ z = .int .i64 (k : Int) ∧ v ≤ V ∧ v ≤ 1000 ∧ Hid (Fr [] wo wq) ∧ Hid (u ≤ v ∧ ∀ x ∈ r.take k, x.natAbs ≤ v))
        case atStart => exact ⟨0, u, Nat.zero_le _, by omega, rfl, rfl, huV, huK, Lib.hid (by rw [HWO.out]; exact Fr.refl [] _), Lib.hid (by simp)⟩
        case round =>
          obtain ⟨k, v, hk, hgk, rfl, rfl, hvV, hvK, HQ, HB⟩ := hrel
          have H3 := Lib.hid (H2.out.step HQ.out)
          have hb := (H3.out.bring 1).blk
          have c0 : _ = some _ := heap_eq_cell hb 0
          have c1 : _ = some _ := heap_eq_cell hb 1
          have cl := lt_of_block hb
          clear hb
          have hc := (HQ.out.cell (p := ⟨g, off + i, none⟩) hgl (by simp)).trans HC.out
          have hglq := Nat.lt_of_lt_of_le hgl HQ.out.size
          by_cases hkm : k < m
          · obtain ⟨x, hx⟩ : ∃ x, r[k]? = some x := ⟨_, List.getElem?_eq_getElem (by rw [HM.out]; exact hkm)⟩
            obtain ⟨g2, off2, rfl, hgl2, hc2⟩ := IntsAt.get (HRI.out.1.fr HQ.out) hx
            have htk : r.take (k + 1) = r.take k ++ [x] := by rw [List.take_add_one, hx]; rfl
            have HTK2 := Lib.hid htk
            have hxm := List.mem_of_getElem? hx
            have hrm := List.mem_of_getElem? HRI.out.2
            have hx1 := HLT.out r hrm x hxm
            have hx2 := HKK.out r hrm x hxm
            have hw1 : IntKind.i64.wrap (-x) = -x := IntWalk.i64_in _ (by omega)
            obtain ⟨y, hy⟩ : ∃ y, x.natAbs = y := ⟨_, rfl⟩
            have hmx : max x (-x) = ((y : Nat) : Int) := by omega
            obtain ⟨z, hz⟩ : ∃ z, max v y = z := ⟨_, rfl⟩
            have hmy : max ((v : Nat) : Int) ((y : Nat) : Int) = ((z : Nat) : Int) := by omega
            have hz1 : z ≤ V ∧ z ≤ 1000 := by omega
            have HZ := Lib.hid (show v ≤ z ∧ x.natAbs ≤ z by omega)
            clear htk hx hx1 hx2 hy hz hxm hrm
            go_wp2
            (refine wp_region_text (by kernel_rfl) (by kernel_rfl) ?_)
            go_wp2
            refine Strict.intro rfl ?_
            go_wp2
            go_roundg (m - (k + 1))
            case measure => omega
            case rel =>
              refine ⟨k + 1, z, hkm, Nat.le_refl _, rfl, by simp, hz1.1, hz1.2, Lib.hid (HQ.out.trans0 (by (repeat first | exact Fr.refl _ _ | assumption | apply Fr.n | apply Fr.d | apply Fr.a | refine Fr.s ?_ (.inr (by simp; try omega)) _))), Lib.hid ⟨by have := HB.out.1; have := HZ.out.1; omega, fun x' hx' => ?_⟩⟩
              rw [HTK2.out, List.mem_append] at hx'
              rcases hx' with hx' | hx'
              · have := HB.out.2 x' hx'; have := HZ.out.1; omega
              · rw [List.mem_singleton.1 hx']; exact HZ.out.2
          · obtain rfl : k = m := by omega
            have hall := HB.out.2
            rw [List.take_of_length_le (by rw [HM.out]; exact Nat.le_refl _)] at hall
            have HALL := Lib.hid hall
            clear hall
            go_wp2
            go_roundg (n - (i + 1))
            case measure => omega
            case rel =>
              refine ⟨i + 1, v, hin, Nat.le_refl _, rfl, by simp, hvV, hvK, Lib.hid (HW.out.trans0 HQ.out), Lib.hid fun r' hr' x' hx' => ?_⟩
              rw [HTK.out, List.mem_append] at hr'
              rcases hr' with hr' | hr'
              · have := HA.out r' hr' x' hx'; have := HB.out.1; omega
              · rw [List.mem_singleton.1 hr'] at hx'
                exact HALL.out x' hx'
      · obtain rfl : i = n := by omega
        have hall := HA.out
        rw [List.take_of_length_le (by rw [HN.out]; exact Nat.le_refl _)] at hall
        have hL : Lits u cs := fun r hr x hx => ⟨(HLT.out r hr x hx).1, hall r hr x hx⟩
        have HL := Lib.hid hL
        have HCN := Lib.hid (cntF_numR hL huV)
        have HNU := Lib.hid (fun w' (hf : Fr [] wr w') => Rnumber_calls (V := u) (a := a) (c := c) (cs := cs) (lits_ok HR.out HS.out) (by rw [HN.out]; exact hcl) huK u (HF.out _ _ (H2.out.step hf) fun P hP => List.mem_cons_of_mem _ (List.mem_cons_of_mem _ hP)) (la := none) (lc := 0) (l := []) ⟨rfl, none, 0, rfl, fun h => absurd h (by simp)⟩ (by simp) (by simp))
        obtain ⟨N0, hN0⟩ : ∃ N, numR cs u [] = N := ⟨_, rfl⟩
        rw [hN0, HN.out, List.length_nil] at HNU
        rw [hN0] at HCN
        have hN1 : N0 < limB := hN0 ▸ numR_lim huK []
        have HN1 := Lib.hid hN1
        clear hall hL hN0 hN1 HA
        go_wp2_with fail
        refine (HNU.out _ (by (repeat first | exact Fr.refl _ _ | assumption | apply Fr.n | apply Fr.d | apply Fr.a | refine Fr.s ?_ (.inr (by simp; try omega)) _))).mono ?_
        rintro e w3 ⟨a3, c3, rfl, k3⟩
        have h3 := has_join4 (H2.out.step (by (repeat first | exact Fr.refl _ _ | assumption | apply Fr.n | apply Fr.d | apply Fr.a | refine Fr.s ?_ (.inr (by simp; try omega)) _))) k3
        have h4 := h3.newBlk (.cells #[.bool false, .slice a3 (zd (N0 : Int)).length c3] 41 (0, 0))
        obtain ⟨nb, hnb⟩ : ∃ b, w3.heap.size = b := ⟨_, rfl⟩
        rw [hnb] at h4
        have H4 := Lib.hid h4
        clear h3 h4 k3 HNU H2 c0 c1 cl
        unfold bgv
        go_wp2
        clear hnb
        have hpw : N0 * 2 ^ (u - u) = N0 := by rw [Nat.sub_self]; simp
        have HPW := Lib.hid hpw
        clear hpw
        go_loopg [8] (V - u) (fun gg z wr => ∃ (j v : Nat) (a3 : Option Addr) (c3 : Nat), u ≤ j ∧ j ≤ V ∧ V - j ≤ gg ∧ z = .int .i64 (j : Int) ∧ Hid (v = N0 * 2 ^ (j - u) ∧ v < limB) ∧
          Hid (Has W wr (Hp.blk nb (.cells #[.bool false, .slice a3 (zd (v : Int)).length c3] 41 (0, 0)) :: natR v a3 c3 :: Hp.blk rb (.cells #[.bool false, .slice none 0 0] 41 (0, 0)) :: Hp.blk fb (.cells #[.int .i64 (V : Int), .slice a i c] 24 (0, 0)) :: Ps)))
        case atStart => exact ⟨u, N0, a3, c3, Nat.le_refl _, huV, Nat.le_refl _, rfl, Lib.hid ⟨HPW.out.symm, HN1.out⟩, H4⟩
        case round =>
          obtain ⟨j, v, a3, c3, huj, hjV, hg, rfl, HV, H⟩ := hrel
          clear H4
          have hb := (H.out.bring 3).blk
          have c0 : _ = some _ := heap_eq_cell hb 0
          have c1 : _ = some _ := heap_eq_cell hb 1
          have cl := lt_of_block hb
          clear hb
          have hb := H.out.blk
          have n0 : _ = some _ := heap_eq_cell hb 0
          have n1 : _ = some _ := heap_eq_cell hb 1
          have nz0 := heap_eq_frozen hb 0
          have nz1 := heap_eq_frozen hb 1
          have nl := lt_of_block hb
          clear hb
          by_cases hjv : j < V
          · have HZ := Lib.hid (nat_z (v := v) (a := a3) (c := c3) H.out (by simp))
            unfold bgv at HZ
            go_wp2_with fail
            refine (RAdd_n (H.out.step (by (repeat first | exact Fr.refl _ _ | assumption | apply Fr.n | apply Fr.d | apply Fr.a | refine Fr.s ?_ (.inr (by simp; try omega)) _))) (HZ.out.fr0 (by (repeat first | exact Fr.refl _ _ | assumption | apply Fr.n | apply Fr.d | apply Fr.a | refine Fr.s ?_ (.inr (by simp; try omega)) _))) (HZ.out.fr0 (by (repeat first | exact Fr.refl _ _ | assumption | apply Fr.n | apply Fr.d | apply Fr.a | refine Fr.s ?_ (.inr (by simp; try omega)) _))) HV.out.2 HV.out.2).mono ?_
            rintro e w5 ⟨v', er, a5, c5, rfl, h5, hv', hor⟩
            have HOR := Lib.hid (And.intro hv' hor)
            have H6 := Lib.hid (h5.newBlk (.cells #[.bool false, .slice a5 (zd (v' : Int)).length c5] 41 (0, 0)))
            unfold bgv
            clear HZ H c0 c1 cl n0 n1 nz0 nz1 nl hv'
            rcases hor with ⟨hlt, rfl, rfl⟩ | ⟨hge, rfl⟩
            · have hb := (h5.bring 1).blk
              have nz0 := heap_eq_frozen hb 0
              have nz1 := heap_eq_frozen hb 1
              have n0 : _ = some _ := heap_eq_cell hb 0
              have n1 : _ = some _ := heap_eq_cell hb 1
              have nl := lt_of_block hb
              have hne := World.new_ne w5 _ n0
              have H7 := Lib.hid (((((h5.bring 1).blkSet 0 (.bool false)).blkSet 1 (.slice a5 (zd ((v + v : Nat) : Int)).length c5)).newBlk (.cells #[.bool false, .slice a5 (zd ((v + v : Nat) : Int)).length c5] 41 (0, 0))).ord 6 [1, 2, 4, 5])
              have HV2 := Lib.hid (show v + v = N0 * 2 ^ (j + 1 - u) ∧ v + v < limB from ⟨by
                have e : j + 1 - u = (j - u) + 1 := by omega
                rw [e, Nat.pow_succ, ← Nat.mul_assoc, ← HV.out.1]; omega, hlt⟩)
              obtain ⟨v2, hv2⟩ : ∃ z, v + v = z := ⟨_, rfl⟩
              rw [hv2] at H7 HV2 ⊢
              clear hb h5 H6 hlt HOR hv2
              go_wp2
              go_roundg (V - (j + 1))
              case measure => omega
              case rel => exact ⟨j + 1, v2, a5, c5, by omega, hjv, Nat.le_refl _, by simp, HV2, H7⟩
            · have hb := (h5.bring 3).blk
              have r0 : _ = some _ := heap_eq_cell hb 0
              have r1 : _ = some _ := heap_eq_cell hb 1
              have rz0 := heap_eq_frozen hb 0
              have rz1 := heap_eq_frozen hb 1
              have rl := lt_of_block hb
              have hne := World.new_ne w5 _ r0
              have H7 := Lib.hid ((((h5.bring 3).blkSet 0 (.bool false)).blkSet 1 (.slice none 0 0)).newBlk (.cells #[.bool false, .slice a5 (zd (v' : Int)).length c5] 41 (0, 0)))
              have HGE := Lib.hid (show limB ≤ cntF V cs from by
                rw [HCN.out]
                refine Nat.le_trans hge ?_
                have e1 : v + v = N0 * 2 ^ (j - u + 1) := by rw [Nat.pow_succ, ← Nat.mul_assoc, ← HV.out.1]; omega
                rw [e1]
                exact Nat.mul_le_mul_left _ (Nat.pow_le_pow_right (by omega) (by omega)))
              clear hb h5 H6 hge HOR
              go_wp2
              refine bodyPost_ret (big_result rfl (b := rb) (x := .bool false) (y := .slice none 0 0) (v := .int .i64 6) rfl ?_ rfl) rfl ?_
              · exact H7.out.drop.blk
              · exact .inr (.inr ⟨HR.out, HGE.out, rfl, H7.out.ord 6 []⟩)
          · obtain rfl : j = V := by omega
            have hb := (H.out.bring 2).blk
            have r0 : _ = some _ := heap_eq_cell hb 0
            have r1 : _ = some _ := heap_eq_cell hb 1
            have rz0 := heap_eq_frozen hb 0
            have rz1 := heap_eq_frozen hb 1
            have rl := lt_of_block hb
            have H7 := Lib.hid (((H.out.bring 2).blkSet 0 (.bool false)).blkSet 1 (.slice a3 (zd (v : Int)).length c3))
            have HVE := Lib.hid (show cntF j cs = v from by rw [HCN.out, HV.out.1])
            clear hb H
            go_wp2
            refine bodyPost_ret (big_result rfl (b := rb) (x := .bool false) (y := .slice a3 (zd (v : Int)).length c3) (v := .int .i64 0) rfl ?_ rfl) rfl ?_
            · exact H7.out.blk
            · refine .inr (.inl ⟨HR.out, by rw [HVE.out]; exact HV.out.2, a3, c3, by rw [HVE.out]; rfl, ?_⟩)
              rw [HVE.out]
              exact H7.out.ord 4 [2]
end Go.Proofs.Ytjidldfnlejdhaa
end
