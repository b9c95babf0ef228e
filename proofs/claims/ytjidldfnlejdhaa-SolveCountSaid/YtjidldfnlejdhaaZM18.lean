/- Own texts of this claim, part 19: no condition. -/
import Derived.Test.YtjidldfnlejdhaaZM17
import Derived.Test.YtjidldfnlejdhaaZM16
import Derived.Test.YtjidldfnlejdhaaZM2
import Derived.Test.YtjidldfnlejdhaaZM10
set_option linter.unusedVariables false
set_option linter.unusedSimpArgs false
section
/- The reference's holds and with. -/
namespace Go.Proofs.Ytjidldfnlejdhaa
open Go Go.RowKit Go.Proofs.Rg Go.Proofs.Mp Go.Proofs.Hp Go.Proofs.Sv
set_option linter.unusedVariables false
set_option linter.unusedSimpArgs false
def BoolsAt (w : World) (v : Value) (l : List Bool) : Prop := Reads w v l.length 1 (bv l)
theorem BoolsAt.fr {w w' : World} {v : Value} {l : List Bool} (h : BoolsAt w v l) (hf : Fr [] w w') : BoolsAt w' v l := Reads.fr h hf
theorem bv_get {l : List Bool} {i : Nat} {x : Bool} (h : l[i]? = some x) : (bv l)[i]? = some (.bool x) := by unfold bv; rw [List.getElem?_map, h]; rfl
theorem bv_append (l r : List Bool) : bv (l ++ r) = bv l ++ bv r := by simp [bv]
theorem BoolsAt.get {w : World} {a : Option Addr} {c : Nat} {l : List Bool} (h : BoolsAt w (.slice a l.length c) l) {i : Nat} {x : Bool} (hx : l[i]? = some x) : ∃ g off, a = some ⟨g, off, none⟩ ∧ g < w.heap.size ∧ w.cell? ⟨g, off + i, none⟩ = some (.bool x) := by
  obtain ⟨_, a', c', he, hp⟩ := h
  cases he
  obtain ⟨g, off, ha, hg, hc⟩ := hp (by have := (List.getElem?_eq_some_iff.1 hx).1; omega)
  exact ⟨g, off, ha, hg, hc i _ (bv_get hx)⟩
/-- values that can be read wherever some things are -/
def BoolsSrc (W : World) (Ps : List Res) (a : Option Addr) (c : Nat) (l : List Bool) : Prop := ∀ w Qs, Has W w Qs → (∀ P ∈ Ps, P ∈ Qs) → BoolsAt w (.slice a l.length c) l ∧ l.length ≤ c
theorem BoolsSrc.base {W : World} {Ps : List Res} {a : Option Addr} {c : Nat} {l : List Bool} (h : BoolsAt W (.slice a l.length c) l) (hc : l.length ≤ c) : BoolsSrc W Ps a c l := fun w Qs hw _ => ⟨h.fr hw.fr, hc⟩
theorem BoolsSrc.nil {W : World} {Ps : List Res} : BoolsSrc W Ps none 0 [] := fun w Qs hw _ => ⟨⟨rfl, none, 0, rfl, fun h => absurd h (by simp)⟩, by simp⟩
theorem BoolsSrc.more {W : World} {Ps Rs : List Res} {a : Option Addr} {c : Nat} {l : List Bool} (h : BoolsSrc W Ps a c l) (hs : ∀ P ∈ Ps, P ∈ Rs) : BoolsSrc W Rs a c l := fun w Qs hw hP => h w Qs hw fun P hp => hP P (hs P hp)
theorem FormSrc.more {W : World} {Ps Rs : List Res} {a : Option Addr} {c : Nat} {cs : List (List Int)} (h : FormSrc W Ps a c cs) (hs : ∀ P ∈ Ps, P ∈ Rs) : FormSrc W Rs a c cs := fun w Qs hw hP => h w Qs hw fun P hp => hP P (hs P hp)
theorem BoolsSrc.row {W : World} {Ps : List Res} {a : Option Addr} {c n : Nat} {l : List Bool} (hn : l.length = n) (hm : Hp.row 4 1 (.slice a n c) n (bv l) ∈ Ps) : BoolsSrc W Ps a c l := fun w Qs hw hP => by
  subst hn
  obtain ⟨q1, q2, rfl⟩ := List.append_of_mem (hP _ hm)
  have h := hw.perm (List.perm_middle)
  have h2 := h.rowReads
  exact ⟨h2, owns_cap h.row⟩
/-- literals that the reference reads -/
def LitsOk (cs : List (List Int)) : Prop := ∀ r ∈ cs, r.length ≤ 1000000 ∧ ∀ x ∈ r, x ≠ 0 ∧ x.natAbs ≤ 65536
theorem take_any {r : List Int} {k : Nat} {x : Int} (hx : r[k]? = some x) (p : Int → Bool) : (r.take (k + 1)).any p = ((r.take k).any p || p x) := by
  rw [List.take_add_one, hx, List.any_append]; simp
set_option maxHeartbeats 8000000 in
theorem Rholds_calls {w : World} {V : Int} {a : Option Addr} {c : Nat} {cs : List (List Int)} (h : FormAt w a c cs) (hz : LitsOk cs) (hn6 : cs.length ≤ 262144) {la : Option Addr} {lc : Nat} {l : List Bool} (hl : BoolsAt w (.slice la l.length lc) l) (hll : l.length ≤ 70000) :
    Calls Try.prog 57 #[.agg #[.int .i64 V, .slice a cs.length c], .slice la l.length lc] w fun e w' => e = .returned (.bool (hold cs l)) ∧ Fr [] w w' := by
  have HI := Lib.hid h
  have HZ := Lib.hid hz
  have HL := Lib.hid hl
  obtain ⟨n, hn⟩ : ∃ n, cs.length = n := ⟨_, rfl⟩
  obtain ⟨nl, hnl⟩ : ∃ n, l.length = n := ⟨_, rfl⟩
  obtain ⟨R, hR⟩ : ∃ R, hold cs l = R := ⟨_, rfl⟩
  rw [hn] at hn6 ⊢
  rw [hnl] at hll ⊢
  rw [hR]
  have HN := Lib.hid (And.intro hn hnl)
  have HR := Lib.hid hR
  clear h hz hl hn hnl hR
  go_enter Try.func57, Try.ntmps57
  go_wp2
  obtain ⟨bb, hbb⟩ : ∃ b, w.heap.size = b := ⟨_, rfl⟩
  refine abs_world (fun w' => w'.cell? ⟨bb, 1, none⟩ = some (.slice a n c) ∧ bb < w'.heap.size ∧ Fr [] w w') ⟨?_, ?_, ?_⟩ ?_
  · rw [← hbb]; simp
  · rw [← hbb]; simp
  · (repeat first | exact Fr.refl _ _ | assumption | apply Fr.n | apply Fr.d | apply Fr.a | refine Fr.s ?_ (.inr (by simp; try omega)) _)
  rintro w1 ⟨v1, vl, hf1⟩
  rw [hbb]
  have HF1 := Lib.hid hf1
  clear hbb hf1
  go_loopg [5] n (fun gg z wr => ∃ i : Nat, i ≤ n ∧ n - i ≤ gg ∧ z = .int .i64 (i : Int) ∧ wr = w1 ∧ Hid ((cs.take i).all (fun c => c.any (opn l)) = true))
  case atStart => exact ⟨0, Nat.zero_le _, by omega, rfl, rfl, Lib.hid rfl⟩
  case round =>
    obtain ⟨i, hi, hg, rfl, hwr, HA⟩ := hrel
    subst wr
    by_cases hin : i < n
    · obtain ⟨r, hr⟩ : ∃ r, cs[i]? = some r := ⟨_, List.getElem?_eq_getElem (by rw [HN.out.1]; exact hin)⟩
      obtain ⟨g, off, ra, rc, hae, hgl, hc, hri⟩ := (HI.out.fr HF1.out).1.row hr
      subst hae
      have hrl := (HZ.out r (List.mem_of_getElem? hr)).1
      have htk : cs.take (i + 1) = cs.take i ++ [r] := by rw [List.take_add_one, hr]; rfl
      have HTK := Lib.hid htk
      have HRI := Lib.hid (And.intro hri hr)
      have HRZ := Lib.hid (HZ.out r (List.mem_of_getElem? hr)).2
      obtain ⟨m, hm⟩ : ∃ m, r.length = m := ⟨_, rfl⟩
      rw [hm] at hrl hc
      have HM := Lib.hid hm
      clear htk hri hr hm
      go_wp2
      go_loopg [6, 7] m (fun gg z6 z wr => ∃ (k : Nat) (ob : Bool), k ≤ m ∧ m - k ≤ gg ∧ z6 = .bool ob ∧ z = .int .i64 (k : Int) ∧ wr = w1 ∧ Hid ((r.take k).any (opn l) = ob))
      case atStart => exact ⟨0, false, Nat.zero_le _, by omega, rfl, rfl, rfl, Lib.hid rfl⟩
      case round =>
        obtain ⟨k, ob, hk, hgk, rfl, rfl, hwr, HB⟩ := hrel
        subst wr
        by_cases hkm : k < m
        · obtain ⟨x, hx⟩ : ∃ x, r[k]? = some x := ⟨_, List.getElem?_eq_getElem (by rw [HM.out]; exact hkm)⟩
          obtain ⟨g2, off2, rfl, hgl2, hc2⟩ := IntsAt.get HRI.out.1 hx
          have HTA := Lib.hid (take_any hx (opn l))
          obtain ⟨hx0, hx6⟩ := HRZ.out x (List.mem_of_getElem? hx)
          have hw1 : IntKind.i64.wrap (-x) = -x := IntWalk.i64_in _ (by omega)
          obtain ⟨v, hv⟩ : ∃ v, x.natAbs = v := ⟨_, rfl⟩
          have hmx : max x (-x) = ((v : Nat) : Int) := by omega
          have hv1 : 1 ≤ v := by omega
          have HV := Lib.hid hv
          have HX := Lib.hid hx
          clear hx hx0 hx6 hv
          cases ob with
          | true =>
            go_wp2
            go_roundg (m - (k + 1))
            case measure => omega
            case rel => exact ⟨k + 1, true, hkm, Nat.le_refl _, rfl, by simp, rfl, Lib.hid (by rw [HTA.out, HB.out]; rfl)⟩
          | false =>
            by_cases hvl : nl < v
            · have b1 : decide ((v : Int) > (nl : Int)) = true := by simp; omega
              have HO := Lib.hid (show opn l x = true by unfold opn; rw [HN.out.2, HV.out]; simp [hvl])
              go_wp2
              go_roundg (m - (k + 1))
              case measure => omega
              case rel => exact ⟨k + 1, true, hkm, Nat.le_refl _, rfl, by simp, rfl, Lib.hid (by rw [HTA.out, HB.out, HO.out]; rfl)⟩
            · obtain ⟨j, rfl⟩ : ∃ j, v = j + 1 := ⟨v - 1, by omega⟩
              have b1 : decide ((nl : Int) < (j : Int) + 1) = false := by simp; omega
              obtain ⟨b, hb⟩ : ∃ b, l[j]? = some b := ⟨_, List.getElem?_eq_getElem (by rw [HN.out.2]; omega)⟩
              have hLb := HL.out
              rw [HN.out.2] at hLb
              obtain ⟨g3, off3, rfl, hgl3, hc3⟩ := BoolsAt.get (by rw [HN.out.2]; exact hLb.fr HF1.out) hb
              obtain ⟨px, hpx⟩ : ∃ p, decide (x > 0) = p := ⟨_, rfl⟩
              have HO := Lib.hid (show opn l x = (b == px) by
                unfold opn litT
                rw [HN.out.2, HV.out, Nat.add_sub_cancel, List.getD_eq_getElem?_getD, hb, ← hpx]
                simp [hvl])
              clear hLb hb
              go_wp2
              go_roundg (m - (k + 1))
              case measure => omega
              case rel => exact ⟨k + 1, b == px, hkm, Nat.le_refl _, rfl, by simp, rfl, Lib.hid (by rw [HTA.out, HB.out, HO.out]; rfl)⟩
        · obtain rfl : k = m := by omega
          have hall := HB.out
          rw [List.take_of_length_le (by rw [HM.out]; exact Nat.le_refl _)] at hall
          have HALL := Lib.hid hall
          clear hall HB
          cases ob with
          | true =>
            go_wp2
            go_roundg (n - (i + 1))
            case measure => omega
            case rel => exact ⟨i + 1, hin, Nat.le_refl _, by simp, rfl, Lib.hid (by rw [HTK.out, List.all_append, HA.out]; simp [HALL.out])⟩
          | false =>
            have hres : R = false := by
              rw [← HR.out]
              unfold hold
              rw [List.all_eq_false]
              exact ⟨r, List.mem_of_getElem? HRI.out.2, by rw [HALL.out]; simp⟩
            have HRES := Lib.hid hres
            clear hres
            go_wp2
            go_ret
            exact ⟨by rw [HRES.out]; rfl, HF1.out⟩
    · obtain rfl : i = n := by omega
      have hall := HA.out
      rw [List.take_of_length_le (by rw [HN.out.1]; exact Nat.le_refl _)] at hall
      have HALL := Lib.hid (show R = true from HR.out.symm.trans hall)
      clear hall HA
      go_wp2
      go_ret
      exact ⟨by rw [HALL.out]; rfl, HF1.out⟩
set_option maxHeartbeats 8000000 in
theorem Rwith_h {W w : World} {Ps : List Res} (h : Has W w Ps) {la : Option Addr} {lc : Nat} {l : List Bool} (hl : BoolsSrc W Ps la lc l) (hll : l.length ≤ 70000) (b : Bool) :
    Calls Try.prog 34 #[.slice la l.length lc, .bool b] w fun e w' => ∃ a c, e = .returned (.slice a (l.length + 1) c) ∧ Has W w' (Hp.row 4 1 (.slice a (l.length + 1) c) (l.length + 1) (bv (l ++ [b])) :: Ps) := by
  have HL := Lib.hid hl
  obtain ⟨n, hn⟩ : ∃ n, l.length = n := ⟨_, rfl⟩
  rw [hn] at hll ⊢
  have HN := Lib.hid hn
  have H0 := Lib.hid (h.nilRow 4 1)
  have hmaxl : (300001 : Nat) ≤ maxLen := by decide
  have HLY := Lib.hid (fun i (hi : i ≤ n) => (show i + 1 ≤ maxLen ∧ (i + 1) * 1 ≤ 140737488355328 from by omega))
  clear h hl hn hmaxl
  go_enter Try.func34, Try.ntmps34
  go_wp2
  go_loopg [5, 6] n (fun gg z5 z wr => ∃ (i : Nat) (va : Option Addr) (vc : Nat), i ≤ n ∧ n - i ≤ gg ∧ z5 = .slice va i vc ∧ z = .int .i64 (i : Int) ∧ Hid (Has W wr (Hp.row 4 1 (.slice va i vc) i (bv (l.take i)) :: Ps)))
  case atStart => exact ⟨0, none, 0, Nat.zero_le _, by omega, rfl, rfl, Lib.hid H0.out⟩
  case round =>
    obtain ⟨i, va, vc, hi, hg, rfl, rfl, H⟩ := hrel
    clear H0
    by_cases hin : i < n
    · obtain ⟨x, hx⟩ : ∃ x, l[i]? = some x := ⟨_, List.getElem?_eq_getElem (by rw [HN.out]; exact hin)⟩
      obtain ⟨g, off, rfl, hgl, hc⟩ := BoolsAt.get (HL.out wr _ H.out fun P hP => List.mem_cons_of_mem _ hP).1 hx
      have HX := Lib.hid (show bv (l.take i) ++ [.bool x] = bv (l.take (i + 1)) by rw [List.take_add_one, hx, bv_append]; rfl)
      clear hx
      go_wp2_with (at_builtin; refine append_has (W := W) (size := 1) (bytes := 1) (z := .bool false) (e := 4) (n := i) (xs := bv (l.take i)) (news := [.bool x]) rfl rfl Try.underlying25 (by kernel_rfl) rfl (by decide) rfl rfl (H.out.step (by (repeat first | exact Fr.refl _ _ | assumption | apply Fr.n | apply Fr.d | apply Fr.a | refine Fr.s ?_ (.inr (by simp; try omega)) _))) (by (repeat first | rw [if_pos (by omega)] | rw [if_neg (by omega)] | rw [hp_drew] | rw [hp_drewN] | rw [hp_alloc_size] | rw [hp_setCell_size] | rw [hp_alloc] | rw [hp_setCell] | rw [oMS] | rw [upd_cells] | rw [lSZ] | rw [lSS] | rfl)) rfl (by simp [Value.oneCell']) (HLY.out i hi).1 (HLY.out i hi).2 ?_)
      intro g2 cap2 w5 h5 hf5 hg5
      rw [HX.out] at h5
      have H5 := Lib.hid h5
      clear h5 hf5 H hc hgl
      go_wp2
      go_roundg (n - (i + 1))
      case measure => omega
      case rel => exact ⟨i + 1, some ⟨g2, 0, none⟩, cap2, hin, Nat.le_refl _, rfl, by simp, H5⟩
    · obtain rfl : i = n := by omega
      have h1 := H.out
      rw [List.take_of_length_le (by rw [HN.out]; exact Nat.le_refl _)] at h1
      have H1 := Lib.hid h1
      clear h1 H
      go_wp2_with (at_builtin; refine append_has (W := W) (size := 1) (bytes := 1) (z := .bool false) (e := 4) (n := i) (xs := bv l) (news := [.bool b]) rfl rfl Try.underlying25 (by kernel_rfl) rfl (by decide) rfl rfl (H1.out.step (by (repeat first | exact Fr.refl _ _ | assumption | apply Fr.n | apply Fr.d | apply Fr.a | refine Fr.s ?_ (.inr (by simp; try omega)) _))) (by (repeat first | rw [if_pos (by omega)] | rw [if_neg (by omega)] | rw [hp_drew] | rw [hp_drewN] | rw [hp_alloc_size] | rw [hp_setCell_size] | rw [hp_alloc] | rw [hp_setCell] | rw [oMS] | rw [upd_cells] | rw [lSZ] | rw [lSS] | rfl)) rfl (by simp [Value.oneCell']) (HLY.out i hi).1 (HLY.out i hi).2 ?_)
      intro g2 cap2 w5 h5 hf5 hg5
      have H5 := Lib.hid h5
      clear h5 hf5 H1
      go_wp2
      go_ret
      refine ⟨some ⟨g2, 0, none⟩, cap2, rfl, ?_⟩
      rw [bv_append]
      exact H5.out
end Go.Proofs.Ytjidldfnlejdhaa
end

section
/- The reference's complete and First. -/
namespace Go.Proofs.Ytjidldfnlejdhaa
open Go Go.RowKit Go.Proofs.Rg Go.Proofs.Mp Go.Proofs.Hp Go.Proofs.Sv
set_option linter.unusedVariables false
set_option linter.unusedSimpArgs false
def CompPost (W : World) (Ps : List Res) (cs : List (List Int)) (k : Nat) (l : List Bool) (e : Ending) (w' : World) : Prop :=
  (complete cs k l = none ∧ e = .returned (.tuple #[.slice none 0 0, .bool false]) ∧ Has W w' Ps) ∨
  ∃ (x : List Bool) (a : Option Addr) (c : Nat) (Qs : List Res), complete cs k l = some x ∧ e = .returned (.tuple #[.slice a x.length c, .bool true]) ∧ Has W w' (Qs ++ Ps) ∧ BoolsSrc W (Qs ++ Ps) a c x
def CompAt (W : World) (V : Nat) (a : Option Addr) (c : Nat) (cs : List (List Int)) (k : Nat) : Prop :=
  ∀ ⦃w : World⦄ ⦃Ps : List Res⦄ (h : Has W w Ps) (hF : FormSrc W Ps a c cs) ⦃la : Option Addr⦄ ⦃lc : Nat⦄ ⦃l : List Bool⦄ (hl : BoolsSrc W Ps la lc l) (hk : l.length + k = V),
    Calls Try.prog 31 #[.agg #[.int .i64 (V : Int), .slice a cs.length c], .slice la l.length lc] w (CompPost W Ps cs k l)
set_option maxHeartbeats 8000000 in
theorem Rcomplete_zero {W : World} {V : Nat} {a : Option Addr} {c : Nat} {cs : List (List Int)} (hz : LitsOk cs) (hn6 : cs.length ≤ 262144) (hV : V ≤ 65536) : CompAt W V a c cs 0 := by
  intro w Ps h hF la lc l hl hk
  have HZ := Lib.hid (And.intro hz (And.intro hn6 hV))
  have hkv : ((l.length : Int) == (V : Int)) = true := by simp; omega
  clear hz hn6 hV
  have H1 := Lib.hid (h.newBlk (.cells #[.int .i64 (V : Int), .slice a cs.length c] 24 (0, 0)))
  have HF := Lib.hid hF
  have HL := Lib.hid hl
  have HK := Lib.hid hk
  obtain ⟨R, hR⟩ : ∃ R, hold cs l = R := ⟨_, rfl⟩
  have HR := Lib.hid hR
  obtain ⟨fb, hfb⟩ : ∃ b, w.heap.size = b := ⟨_, rfl⟩
  rw [hfb] at H1
  clear h hF hl hR hk
  go_enter Try.func31, Try.ntmps31
  go_wp2_with fail
  refine (Rholds_calls (HF.out _ _ H1.out fun P hP => List.mem_cons_of_mem _ hP) HZ.out.1 HZ.out.2.1 (HL.out _ _ H1.out fun P hP => List.mem_cons_of_mem _ hP).1 (by have := HK.out; have := HZ.out.2.2; omega)).mono ?_
  rw [HR.out]
  rintro e w2 ⟨rfl, hf2⟩
  have H2 := Lib.hid (H1.out.step hf2)
  have hb := H2.out.blk
  have c0 : _ = some _ := heap_eq_cell hb 0
  have c1 : _ = some _ := heap_eq_cell hb 1
  have cl := lt_of_block hb
  clear hf2 H1 hb hfb
  cases R with
  | false =>
    go_wp2
    go_ret2
    exact .inl ⟨by unfold complete; rw [HR.out]; rfl, rfl, H2.out.drop⟩
  | true =>
    go_wp2
    go_ret2
    exact .inr ⟨l, la, lc, [], by unfold complete; rw [HR.out]; rfl, rfl, H2.out.drop, HL.out⟩
set_option maxHeartbeats 8000000 in
theorem Rcomplete_succ {W : World} {V : Nat} {a : Option Addr} {c : Nat} {cs : List (List Int)} (hz : LitsOk cs) (hn6 : cs.length ≤ 262144) (hV : V ≤ 65536) {k : Nat} (ih : CompAt W V a c cs k) : CompAt W V a c cs (k + 1) := by
  intro w Ps h hF la lc l hl hk
  have HZ := Lib.hid (And.intro hz (And.intro hn6 hV))
  have IH := Lib.hid (show CompAt W V a c cs k from ih)
  have hkv : ((l.length : Int) == (V : Int)) = false := by simp; omega
  clear hz hn6 hV ih
  have H1 := Lib.hid (h.newBlk (.cells #[.int .i64 (V : Int), .slice a cs.length c] 24 (0, 0)))
  have HF := Lib.hid hF
  have HL := Lib.hid hl
  have HK := Lib.hid hk
  obtain ⟨R, hR⟩ : ∃ R, hold cs l = R := ⟨_, rfl⟩
  have HR := Lib.hid hR
  obtain ⟨fb, hfb⟩ : ∃ b, w.heap.size = b := ⟨_, rfl⟩
  rw [hfb] at H1
  clear h hF hl hR hk
  go_enter Try.func31, Try.ntmps31
  go_wp2_with fail
  refine (Rholds_calls (HF.out _ _ H1.out fun P hP => List.mem_cons_of_mem _ hP) HZ.out.1 HZ.out.2.1 (HL.out _ _ H1.out fun P hP => List.mem_cons_of_mem _ hP).1 (by have := HK.out; have := HZ.out.2.2; omega)).mono ?_
  rw [HR.out]
  rintro e w2 ⟨rfl, hf2⟩
  have H2 := Lib.hid (H1.out.step hf2)
  have hb := H2.out.blk
  have c0 : _ = some _ := heap_eq_cell hb 0
  have c1 : _ = some _ := heap_eq_cell hb 1
  have cl := lt_of_block hb
  clear hf2 H1 hb hfb
  cases R with
  | false =>
    go_wp2
    go_ret2
    exact .inl ⟨by unfold complete; rw [HR.out]; rfl, rfl, H2.out.drop⟩
  | true =>
    go_wp2
    refine wp_region_segs [([0, 1, 2], [0]), ([3, 4, 5, 6, 7, 8], [])] (by kernel_rfl) (by kernel_rfl) ?_
    (simp only [wpSegs, pick, Array.getD_eq_getD_getElem?, List.getElem?_toArray, List.getElem?_cons_succ, List.getElem?_cons_zero, Option.getD_some])
    go_wp2_with fail
    refine (Rwith_h (H2.out.step (by (repeat first | exact Fr.refl _ _ | assumption | apply Fr.n | apply Fr.d | apply Fr.a | refine Fr.s ?_ (.inr (by simp; try omega)) _))) (BoolsSrc.more HL.out fun P hP => List.mem_cons_of_mem _ hP) (by have := HK.out; have := HZ.out.2.2; omega) false).mono ?_
    rintro e w3 ⟨a3, c3, rfl, h3⟩
    have hb := (h3.bring 1).blk
    clear c0 c1 cl
    have c0 : _ = some _ := heap_eq_cell hb 0
    have c1 : _ = some _ := heap_eq_cell hb 1
    have cl := lt_of_block hb
    have Hb := Lib.hid hb
    have H3 := Lib.hid h3
    clear h3 hb H2
    go_wp2
    refine Mid.intro ⟨⟨again_row (T := 24) (cs := [.int .i64 (V : Int), .slice a cs.length c]) rfl rfl rfl Try.underlying24 rfl (by kernel_rfl) (fun j v hj => ?rngfalse) rfl, trivial⟩, ?_⟩
    case rngfalse =>
      rw [Nat.zero_add, heap_eq_cell Hb.out, ← hj]
      exact (Array.getElem?_toList (xs := #[Value.int .i64 (V : Int), .slice a cs.length c])).symm
    clear Hb
    have HSfalse := Lib.hid (show (l ++ [false]).length = l.length + 1 by simp)
    have HWfalse := Lib.hid (IH.out H3.out (FormSrc.more HF.out fun P hP => List.mem_cons_of_mem _ (List.mem_cons_of_mem _ hP)) (la := a3) (lc := c3) (l := l ++ [false]) (BoolsSrc.row (n := l.length + 1) (by simp) (by simp)) (by rw [HSfalse.out]; have := HK.out; omega))
    rw [HSfalse.out] at HWfalse
    go_wp2_with fail
    refine HWfalse.out.mono ?_
    clear HWfalse
    rintro e w4 h4
    rcases h4 with ⟨hc4, rfl, h4⟩ | ⟨x, ax, cx, Qs, hc4, rfl, h4, hs4⟩
    · have hb := (h4.bring 1).blk
      clear c0 c1 cl
      have c0 : _ = some _ := heap_eq_cell hb 0
      have c1 : _ = some _ := heap_eq_cell hb 1
      have cl := lt_of_block hb
      have H4 := Lib.hid h4
      have HC4 := Lib.hid hc4
      clear h4 hb hc4 H3
      go_wp2
      refine Mid.intro ⟨trivial, Strict.intro rfl ?_⟩
      go_wp2
      refine wp_region_segs [([0, 1, 2], [0]), ([3, 4, 5, 6, 7], [])] (by kernel_rfl) (by kernel_rfl) ?_
      (simp only [wpSegs, pick, Array.getD_eq_getD_getElem?, List.getElem?_toArray, List.getElem?_cons_succ, List.getElem?_cons_zero, Option.getD_some])
      go_wp2_with fail
      refine (Rwith_h (H4.out.step (by (repeat first | exact Fr.refl _ _ | assumption | apply Fr.n | apply Fr.d | apply Fr.a | refine Fr.s ?_ (.inr (by simp; try omega)) _))) (BoolsSrc.more HL.out fun P hP => List.mem_cons_of_mem _ (List.mem_cons_of_mem _ hP)) (by have := HK.out; have := HZ.out.2.2; omega) true).mono ?_
      rintro e w3 ⟨a3, c3, rfl, h3⟩
      have hb := (h3.bring 2).blk
      clear c0 c1 cl
      have c0 : _ = some _ := heap_eq_cell hb 0
      have c1 : _ = some _ := heap_eq_cell hb 1
      have cl := lt_of_block hb
      have Hb := Lib.hid hb
      have H3 := Lib.hid h3
      clear h3 hb H4
      go_wp2
      refine Mid.intro ⟨⟨again_row (T := 24) (cs := [.int .i64 (V : Int), .slice a cs.length c]) rfl rfl rfl Try.underlying24 rfl (by kernel_rfl) (fun j v hj => ?rngtrue) rfl, trivial⟩, ?_⟩
      case rngtrue =>
        rw [Nat.zero_add, heap_eq_cell Hb.out, ← hj]
        exact (Array.getElem?_toList (xs := #[Value.int .i64 (V : Int), .slice a cs.length c])).symm
      clear Hb
      have HStrue := Lib.hid (show (l ++ [true]).length = l.length + 1 by simp)
      have HWtrue := Lib.hid (IH.out H3.out (FormSrc.more HF.out fun P hP => List.mem_cons_of_mem _ (List.mem_cons_of_mem _ (List.mem_cons_of_mem _ hP))) (la := a3) (lc := c3) (l := l ++ [true]) (BoolsSrc.row (n := l.length + 1) (by simp) (by simp)) (by rw [HStrue.out]; have := HK.out; omega))
      rw [HStrue.out] at HWtrue
      go_wp2_with fail
      refine HWtrue.out.mono ?_
      clear HWtrue
      rintro e w5 h5
      have HE := Lib.hid (show complete cs (k + 1) l = complete cs k (l ++ [true]) by rw [complete, if_pos HR.out, HC4.out]; rfl)
      rcases h5 with ⟨hc5, rfl, h5⟩ | ⟨x, ax, cx, Qs, hc5, rfl, h5, hs5⟩
      · have H5 := Lib.hid h5
        have HC5 := Lib.hid hc5
        clear h5 hc5 H3 c0 c1 cl
        go_wp2
        refine Mid.intro ⟨trivial, Strict.intro rfl ?_⟩
        go_wp2
        go_ret2
        exact .inl ⟨HE.out.trans HC5.out, rfl, H5.out.drop.drop.drop⟩
      · have H5 := Lib.hid h5
        have HC5 := Lib.hid hc5
        have HS5 := Lib.hid hs5
        clear h5 hc5 hs5 H3 c0 c1 cl
        go_wp2
        refine Mid.intro ⟨trivial, Strict.intro rfl ?_⟩
        go_wp2
        go_ret2
        refine .inr ⟨x, ax, cx, _, HE.out.trans HC5.out, rfl, (show Has W _ ((Qs ++ [_, _, _]) ++ Ps) from by rw [List.append_assoc]; exact H5.out), ?_⟩
        rw [List.append_assoc]
        exact HS5.out
    · have H4 := Lib.hid h4
      have HC4 := Lib.hid hc4
      have HS4 := Lib.hid hs4
      clear h4 hc4 hs4 H3 c0 c1 cl
      go_wp2
      refine Mid.intro ⟨trivial, Strict.intro rfl ?_⟩
      go_wp2
      go_ret2
      refine .inr ⟨x, ax, cx, _, by rw [complete, if_pos HR.out, HC4.out]; rfl, rfl, (show Has W _ ((Qs ++ [_, _]) ++ Ps) from by rw [List.append_assoc]; exact H4.out), ?_⟩
      rw [List.append_assoc]
      exact HS4.out
theorem Rcomplete_calls {W : World} {V : Nat} {a : Option Addr} {c : Nat} {cs : List (List Int)} (hz : LitsOk cs) (hn6 : cs.length ≤ 262144) (hV : V ≤ 65536) : ∀ k, CompAt W V a c cs k
  | 0 => Rcomplete_zero hz hn6 hV
  | k + 1 => Rcomplete_succ hz hn6 hV (Rcomplete_calls hz hn6 hV k)
/-- what First returns in the reference -/
def RFirstPost (W : World) (Ps : List Res) (V : Nat) (cs : List (List Int)) (e : Ending) (w' : World) : Prop :=
  (rightF V cs = false ∧ e = .returned (.tuple #[.slice none 0 0, .bool false, .int .i64 2]) ∧ Has W w' Ps) ∨
  (rightF V cs = true ∧ complete cs V [] = none ∧ e = .returned (.tuple #[.slice none 0 0, .bool false, .int .i64 0]) ∧ Has W w' Ps) ∨
  (rightF V cs = true ∧ ∃ x a c Qs, complete cs V [] = some x ∧ e = .returned (.tuple #[.slice a x.length c, .bool true, .int .i64 0]) ∧ Has W w' (Qs ++ Ps) ∧ BoolsSrc W (Qs ++ Ps) a c x)
theorem lits_ok {V : Nat} {cs : List (List Int)} (h : rightF V cs = true) (hs : ∀ r ∈ cs, r.length ≤ 1000000) : LitsOk cs := fun r hr => ⟨hs r hr, fun x hx => by
  obtain ⟨_, h2, h3⟩ := rightF_len h
  have := h3 r hr x hx
  omega⟩
set_option maxHeartbeats 8000000 in
theorem RFirst_calls {W w : World} {Ps : List Res} (h : Has W w Ps) {V : Nat} {a : Option Addr} {c : Nat} {cs : List (List Int)} (hF : FormSrc W Ps a c cs) (hs : ∀ r ∈ cs, r.length ≤ 1000000) :
    Calls Try.prog 12 #[.agg #[.int .i64 (V : Int), .slice a cs.length c]] w (RFirstPost W Ps V cs) := by
  have H0 := Lib.hid (h.newBlk (.cells #[.int .i64 (V : Int), .slice a cs.length c] 24 (0, 0)))
  have HF := Lib.hid hF
  have HS := Lib.hid hs
  clear h hF hs
  go_enter Try.func12, Try.ntmps12
  go_wp2_with fail
  refine (R40Right_calls (HF.out _ _ H0.out fun P hP => List.mem_cons_of_mem _ hP)).mono ?_
  rintro e w1 ⟨rfl, hf1⟩
  obtain ⟨R, hR⟩ : ∃ R, rightF V cs = R := ⟨_, rfl⟩
  rw [hR]
  have H1 := Lib.hid (H0.out.step hf1)
  obtain ⟨fb, hfb⟩ : ∃ b, w.heap.size = b := ⟨_, rfl⟩
  rw [hfb] at H1 ⊢
  have HR := Lib.hid hR
  have hb := H1.out.blk
  have c0 : _ = some _ := heap_eq_cell hb 0
  have c1 : _ = some _ := heap_eq_cell hb 1
  have cl := lt_of_block hb
  clear hf1 H0 hfb hR hb
  cases R with
  | false =>
    go_wp2
    go_ret3
    exact .inl ⟨HR.out, rfl, H1.out.drop⟩
  | true =>
    obtain ⟨hcl, hV, _⟩ := rightF_len HR.out
    have HC := Lib.hid (Rcomplete_calls (lits_ok HR.out HS.out) hcl hV V H1.out (FormSrc.more HF.out fun P hP => List.mem_cons_of_mem _ hP) (la := none) (lc := 0) (l := []) BoolsSrc.nil (by simp))
    rw [List.length_nil] at HC
    go_wp2_with fail
    refine HC.out.mono ?_
    rintro e w4 h4
    rcases h4 with ⟨hc4, rfl, h4⟩ | ⟨x, ax, cx, Qs, hc4, rfl, h4, hs4⟩
    · have H4 := Lib.hid h4
      have HC4 := Lib.hid hc4
      clear h4 hc4 H1 c0 c1 cl HC
      go_wp2
      go_ret3
      exact .inr (.inl ⟨HR.out, HC4.out, rfl, H4.out.drop⟩)
    · have H4 := Lib.hid h4
      have HC4 := Lib.hid hc4
      have HS4 := Lib.hid hs4
      clear h4 hc4 hs4 H1 c0 c1 cl HC
      go_wp2
      go_ret3
      refine .inr (.inr ⟨HR.out, x, ax, cx, _, HC4.out, rfl, (show Has W _ ((Qs ++ [_]) ++ Ps) from by rw [List.append_assoc]; exact H4.out), ?_⟩)
      rw [List.append_assoc]
      exact HS4.out
end Go.Proofs.Ytjidldfnlejdhaa
end

section
/- The reference's all and All. -/
namespace Go.Proofs.Ytjidldfnlejdhaa
open Go Go.RowKit Go.Proofs.Rg Go.Proofs.Mp Go.Proofs.Hp Go.Proofs.Sv
set_option linter.unusedVariables false
set_option linter.unusedSimpArgs false
theorem allR_len {cs : List (List Int)} {V most : Nat} (hL : Lits V cs) {k : Nat} {l : List Bool} {out : List (List Bool)} (hl : l.length + k ≤ V) (ho : out.length ≤ most + 1) : (allR cs V most k l out).length ≤ most + 1 := by
  rw [allR_eq hL hl]
  split
  · exact ho
  · exact List.length_take_le _ _
/-- the row of values, the list so far -/
def AL (la : Option Addr) (lc : Nat) (l : List Bool) (oa : Option Addr) (oc : Nat) (OV : List (Value × List Bool)) (Ps : List Res) : List Res :=
  Hp.row 4 1 (.slice la l.length lc) l.length (bv l) :: Hp.row 25 1 (.slice oa OV.length oc) OV.length (OV.map (·.1)) :: bun (OV.map rowB) :: Ps
def RAllsPost (W : World) (Ps : List Res) (V most : Nat) (cs : List (List Int)) (k : Nat) (l : List Bool) (out : List (List Bool)) (e : Ending) (w' : World) : Prop :=
  ∃ (OV : List (Value × List Bool)) (oa : Option Addr) (oc : Nat), OV.map (·.2) = allR cs V most k l out ∧ e = .returned (.slice oa OV.length oc) ∧ Has W w' (Hp.row 25 1 (.slice oa OV.length oc) OV.length (OV.map (·.1)) :: bun (OV.map rowB) :: Ps)
def AllsAt (W : World) (V n most : Nat) (a : Option Addr) (c : Nat) (cs : List (List Int)) (k : Nat) : Prop :=
  ∀ ⦃w : World⦄ ⦃Ps : List Res⦄ ⦃la : Option Addr⦄ ⦃lc : Nat⦄ ⦃l : List Bool⦄ ⦃oa : Option Addr⦄ ⦃oc : Nat⦄ ⦃OV : List (Value × List Bool)⦄ (h : Has W w (AL la lc l oa oc OV Ps)) (hF : FormSrc W Ps a c cs) (hk : l.length + k = n) (ho : OV.length ≤ most + 1),
    Calls Try.prog 36 #[.agg #[.int .i64 (V : Int), .slice a cs.length c], .int .i64 (n : Int), .int .i64 (most : Int), .slice la l.length lc, .slice oa OV.length oc] w (RAllsPost W Ps V most cs k l (OV.map (·.2)))
/-- what is bounded and said -/
structure AllHyp (V n most : Nat) (cs : List (List Int)) : Prop where
  hz : LitsOk cs
  hn6 : cs.length ≤ 262144
  hV : V ≤ 65536
  hL : Lits V cs
  hnV : n ≤ V
  hmo : most ≤ 262144
theorem allR_full {cs : List (List Int)} {V most k : Nat} {l : List Bool} {out : List (List Bool)} (h : most < out.length) : allR cs V most k l out = out := by
  cases k <;> rw [allR, if_pos h]
theorem allR_not {cs : List (List Int)} {V most k : Nat} {l : List Bool} {out : List (List Bool)} (h : hold cs l = false) : allR cs V most k l out = out := by
  cases k <;> rw [allR] <;> simp [h]
set_option maxHeartbeats 8000000 in
theorem Ralls_zero {W : World} {V n most : Nat} {a : Option Addr} {c : Nat} {cs : List (List Int)} (hy : AllHyp V n most cs) : AllsAt W V n most a c cs 0 := by
  intro w Ps la lc l oa oc OV h hF hk ho
  have HY := Lib.hid hy
  have hkv : ((l.length : Int) == (n : Int)) = true := by simp; omega
  clear hy
  have H1 := Lib.hid (h.newBlk (.cells #[.int .i64 (V : Int), .slice a cs.length c] 24 (0, 0)))
  have HF := Lib.hid hF
  have HK := Lib.hid (And.intro hk ho)
  obtain ⟨R, hR⟩ : ∃ R, hold cs l = R := ⟨_, rfl⟩
  have HR := Lib.hid hR
  obtain ⟨fb, hfb⟩ : ∃ b, w.heap.size = b := ⟨_, rfl⟩
  rw [hfb] at H1
  by_cases hm : most < OV.length
  · have b1 : decide (most < OV.length) = true := by simpa using hm
    have HM := Lib.hid hm
    clear h hF hR hk ho hm
    go_enter Try.func36, Try.ntmps36
    go_wp2
    go_ret
    exact ⟨OV, oa, oc, by rw [allR_full (by rw [List.length_map]; exact HM.out)], rfl, (H1.out.drop.drop).step (by (repeat first | exact Fr.refl _ _ | assumption | apply Fr.n | apply Fr.d | apply Fr.a | refine Fr.s ?_ (.inr (by simp; try omega)) _))⟩
  have b1 : decide (most < OV.length) = false := by simpa using hm
  have HM := Lib.hid hm
  clear h hF hR hk ho hm
  go_enter Try.func36, Try.ntmps36
  go_wp2_with fail
  refine (Rholds_calls (HF.out _ _ H1.out fun P hP => by simp [AL, hP]) HY.out.hz HY.out.hn6 ((BoolsSrc.row (l := l) (c := lc) rfl (by simp [AL])) _ _ H1.out fun P hP => hP).1 (by have := HK.out.1; have := HY.out.hV; have := HY.out.hnV; omega)).mono ?_
  rw [HR.out]
  rintro e w2 ⟨rfl, hf2⟩
  have H2 := Lib.hid (H1.out.step hf2)
  have hb := H2.out.blk
  have c0 : _ = some _ := heap_eq_cell hb 0
  have c1 : _ = some _ := heap_eq_cell hb 1
  have cl := lt_of_block hb
  clear hf2 H1 hb hfb
  cases R with
  | false =>
    go_wp2
    go_ret
    exact ⟨OV, oa, oc, by rw [allR_not HR.out], rfl, (H2.out.drop.drop).step (by (repeat first | exact Fr.refl _ _ | assumption | apply Fr.n | apply Fr.d | apply Fr.a | refine Fr.s ?_ (.inr (by simp; try omega)) _))⟩
  | true =>
    have HC := Lib.hid (Rcomplete_calls HY.out.hz HY.out.hn6 HY.out.hV (V - l.length) H2.out (FormSrc.more HF.out fun P hP => by simp [AL, hP]) (la := la) (lc := lc) (l := l) (BoolsSrc.row rfl (by simp [AL])) (by have := HK.out.1; have := HY.out.hnV; omega))
    have HE := Lib.hid (show allR cs V most 0 l (OV.map (·.2)) = if okL cs V l then OV.map (·.2) ++ [l] else OV.map (·.2) by rw [allR, if_neg (by rw [List.length_map]; exact HM.out), if_pos HR.out])
    go_wp2_with fail
    refine HC.out.mono ?_
    rintro e w4 h4
    rcases h4 with ⟨hc4, rfl, h4⟩ | ⟨x, ax, cx, Qs, hc4, rfl, h4, hs4⟩
    · have H4 := Lib.hid h4
      have HC4 := Lib.hid hc4
      clear h4 hc4 H2 c0 c1 cl HC
      go_wp2
      go_ret
      exact ⟨OV, oa, oc, by rw [HE.out, okL, HC4.out]; rfl, rfl, H4.out.drop.drop⟩
    · have h5 : Has W w4 (Hp.row 25 1 (.slice oa OV.length oc) OV.length (OV.map (·.1)) :: Hp.row 4 1 (.slice la l.length lc) l.length (bv l) :: bun (OV.map rowB) :: Ps) := by
        have h5 := Has.drops h4
        unfold AL at h5
        exact h5.ord 4 [2, 1, 3]
      obtain ⟨m, hm⟩ : ∃ m, OV.length = m := ⟨_, rfl⟩
      rw [hm] at h5
      have H4 := Lib.hid h5
      have HC4 := Lib.hid hc4
      have hmaxl : (300001 : Nat) ≤ maxLen := by decide
      have HLY := Lib.hid (show m + 1 ≤ maxLen ∧ (m + 1) * 24 ≤ 140737488355328 from by have := HK.out.2; have := HY.out.hmo; omega)
      have HMM := Lib.hid hm
      rw [hm]
      clear h4 hs4 h5 hc4 H2 c0 c1 cl hmaxl HC hm b1
      go_wp2_with (at_builtin; refine append_has (W := W) (size := 1) (bytes := 24) (z := .slice none 0 0) (e := 25) (n := m) (xs := OV.map (·.1)) (news := [.slice la l.length lc]) rfl rfl Try.underlying34 (by kernel_rfl) rfl (by decide) rfl rfl (H4.out.step (by (repeat first | exact Fr.refl _ _ | assumption | apply Fr.n | apply Fr.d | apply Fr.a | refine Fr.s ?_ (.inr (by simp; try omega)) _))) (by (repeat first | rw [if_pos (by omega)] | rw [if_neg (by omega)] | rw [hp_drew] | rw [hp_drewN] | rw [hp_alloc_size] | rw [hp_setCell_size] | rw [hp_alloc] | rw [hp_setCell] | rw [oMS] | rw [upd_cells] | rw [lSZ] | rw [lSS] | rfl)) rfl (by simp [Value.oneCell']) HLY.out.1 HLY.out.2 ?_)
      intro g2 cap2 w5 h5 hf5 hg5
      have h8 := Has.layNew (R := rowB) (l := OV) (b := (.slice la l.length lc, l)) (by
        have h9 := h5.ord 3 [1, 2, 0]
        exact h9)
      have H5 := Lib.hid (h8.ord 2 [1, 0])
      clear h5 hf5 hg5 h8 H4
      go_wp2
      go_ret
      refine ⟨OV ++ [(.slice la l.length lc, l)], some ⟨g2, 0, none⟩, cap2, ?_, ?_, ?_⟩
      · rw [HE.out, okL, HC4.out, List.map_append]; rfl
      · rw [List.length_append, HMM.out]; rfl
      · rw [List.length_append, HMM.out, List.map_append]
        exact H5.out
set_option maxHeartbeats 8000000 in
theorem Ralls_succ {W : World} {V n most : Nat} {a : Option Addr} {c : Nat} {cs : List (List Int)} (hy : AllHyp V n most cs) {k : Nat} (ih : AllsAt W V n most a c cs k) : AllsAt W V n most a c cs (k + 1) := by
  intro w Ps la lc l oa oc OV h hF hk ho
  have HY := Lib.hid hy
  have IH := Lib.hid (show AllsAt W V n most a c cs k from ih)
  have hkv : ((l.length : Int) == (n : Int)) = false := by simp; omega
  clear hy ih
  have H1 := Lib.hid (h.newBlk (.cells #[.int .i64 (V : Int), .slice a cs.length c] 24 (0, 0)))
  have HF := Lib.hid hF
  have HK := Lib.hid (And.intro hk ho)
  obtain ⟨R, hR⟩ : ∃ R, hold cs l = R := ⟨_, rfl⟩
  have HR := Lib.hid hR
  obtain ⟨fb, hfb⟩ : ∃ b, w.heap.size = b := ⟨_, rfl⟩
  rw [hfb] at H1
  by_cases hm : most < OV.length
  · have b1 : decide (most < OV.length) = true := by simpa using hm
    have HM := Lib.hid hm
    clear h hF hR hk ho hm
    go_enter Try.func36, Try.ntmps36
    go_wp2
    go_ret
    exact ⟨OV, oa, oc, by rw [allR_full (by rw [List.length_map]; exact HM.out)], rfl, (H1.out.drop.drop).step (by (repeat first | exact Fr.refl _ _ | assumption | apply Fr.n | apply Fr.d | apply Fr.a | refine Fr.s ?_ (.inr (by simp; try omega)) _))⟩
  have b1 : decide (most < OV.length) = false := by simpa using hm
  have HM := Lib.hid hm
  clear h hF hR hk ho hm
  go_enter Try.func36, Try.ntmps36
  go_wp2_with fail
  refine (Rholds_calls (HF.out _ _ H1.out fun P hP => by simp [AL, hP]) HY.out.hz HY.out.hn6 ((BoolsSrc.row (l := l) (c := lc) rfl (by simp [AL])) _ _ H1.out fun P hP => hP).1 (by have := HK.out.1; have := HY.out.hV; have := HY.out.hnV; omega)).mono ?_
  rw [HR.out]
  rintro e w2 ⟨rfl, hf2⟩
  have H2 := Lib.hid (H1.out.step hf2)
  have hb := H2.out.blk
  have c0 : _ = some _ := heap_eq_cell hb 0
  have c1 : _ = some _ := heap_eq_cell hb 1
  have cl := lt_of_block hb
  clear hf2 H1 hb hfb
  cases R with
  | false =>
    go_wp2
    go_ret
    exact ⟨OV, oa, oc, by rw [allR_not HR.out], rfl, (H2.out.drop.drop).step (by (repeat first | exact Fr.refl _ _ | assumption | apply Fr.n | apply Fr.d | apply Fr.a | refine Fr.s ?_ (.inr (by simp; try omega)) _))⟩
  | true =>
    have HE := Lib.hid (show allR cs V most (k + 1) l (OV.map (·.2)) = allR cs V most k (l ++ [true]) (allR cs V most k (l ++ [false]) (OV.map (·.2))) by rw [allR, if_neg (by rw [List.length_map]; exact HM.out), if_pos HR.out])
    go_wp2
    refine wp_region_segs [([0, 1, 2, 3, 4], [0]), ([5, 6, 7], [])] (by kernel_rfl) (by kernel_rfl) ?_
    (simp only [wpSegs, pick, Array.getD_eq_getD_getElem?, List.getElem?_toArray, List.getElem?_cons_succ, List.getElem?_cons_zero, Option.getD_some])
    go_wp2_with fail
    refine (Rwith_h (H2.out.step (by (repeat first | exact Fr.refl _ _ | assumption | apply Fr.n | apply Fr.d | apply Fr.a | refine Fr.s ?_ (.inr (by simp; try omega)) _))) (BoolsSrc.row (l := l) (a := la) (c := lc) rfl (by simp [AL])) (by have := HK.out.1; have := HY.out.hV; have := HY.out.hnV; omega) false).mono ?_
    rintro e w3 ⟨a3, c3, rfl, h3⟩
    have hb := (h3.bring 1).blk
    clear c0 c1 cl
    have c0 : _ = some _ := heap_eq_cell hb 0
    have c1 : _ = some _ := heap_eq_cell hb 1
    have cl := lt_of_block hb
    have Hb := Lib.hid hb
    have HSfalse := Lib.hid (show (l ++ [false]).length = l.length + 1 by simp)
    have H3 := Lib.hid (show Has W w3 (AL a3 c3 (l ++ [false]) oa oc OV (Hp.blk fb (.cells #[.int .i64 (V : Int), .slice a cs.length c] 24 (0, 0)) :: Hp.row 4 1 (.slice la l.length lc) l.length (bv l) :: Ps)) from by
      unfold AL
      rw [HSfalse.out]
      exact h3.ord 5 [0, 3, 4, 1, 2])
    clear h3 hb H2
    go_wp2
    refine Mid.intro ⟨⟨again_row (T := 24) (cs := [.int .i64 (V : Int), .slice a cs.length c]) rfl rfl rfl Try.underlying24 rfl (by kernel_rfl) (fun j v hj => ?rngfalse) rfl, trivial⟩, ?_⟩
    case rngfalse =>
      rw [Nat.zero_add, heap_eq_cell Hb.out, ← hj]
      exact (Array.getElem?_toList (xs := #[Value.int .i64 (V : Int), .slice a cs.length c])).symm
    clear Hb
    have HWfalse := Lib.hid (IH.out H3.out (FormSrc.more HF.out fun P hP => by simp [hP]) (by rw [HSfalse.out]; have := HK.out.1; omega) HK.out.2)
    rw [HSfalse.out] at HWfalse
    go_wp2_with fail
    refine HWfalse.out.mono ?_
    clear HWfalse H3
    rintro e w4 ⟨OV1, oa1, oc1, hO1, rfl, h4⟩
    have HO1 := Lib.hid hO1
    have hb := (h4.bring 2).blk
    clear c0 c1 cl
    have c0 : _ = some _ := heap_eq_cell hb 0
    have c1 : _ = some _ := heap_eq_cell hb 1
    have cl := lt_of_block hb
    have hol : OV1.length ≤ most + 1 := by
      rw [← List.length_map (f := (·.2)), hO1]
      exact allR_len HY.out.hL (by rw [List.length_append]; have := HK.out.1; have := HY.out.hnV; simp; omega) (by rw [List.length_map]; exact HK.out.2)
    have HOL := Lib.hid hol
    have h5 : Has W w4 (Hp.blk fb (.cells #[.int .i64 (V : Int), .slice a cs.length c] 24 (0, 0)) :: AL la lc l oa1 oc1 OV1 Ps) := by
      unfold AL
      exact h4.ord 4 [2, 3, 0, 1]
    have H4 := Lib.hid h5
    clear hO1 h4 hb hol h5 b1
    go_wp2
    refine Mid.intro ⟨trivial, Strict.intro rfl ?_⟩
    go_wp2
    refine wp_region_segs [([0, 1, 2, 3, 4], [0]), ([5, 6, 7], [])] (by kernel_rfl) (by kernel_rfl) ?_
    (simp only [wpSegs, pick, Array.getD_eq_getD_getElem?, List.getElem?_toArray, List.getElem?_cons_succ, List.getElem?_cons_zero, Option.getD_some])
    go_wp2_with fail
    refine (Rwith_h (H4.out.step (by (repeat first | exact Fr.refl _ _ | assumption | apply Fr.n | apply Fr.d | apply Fr.a | refine Fr.s ?_ (.inr (by simp; try omega)) _))) (BoolsSrc.row (l := l) (a := la) (c := lc) rfl (by simp [AL])) (by have := HK.out.1; have := HY.out.hV; have := HY.out.hnV; omega) true).mono ?_
    rintro e w3 ⟨a3, c3, rfl, h3⟩
    have hb := (h3.bring 1).blk
    clear c0 c1 cl
    have c0 : _ = some _ := heap_eq_cell hb 0
    have c1 : _ = some _ := heap_eq_cell hb 1
    have cl := lt_of_block hb
    have Hb := Lib.hid hb
    have HStrue := Lib.hid (show (l ++ [true]).length = l.length + 1 by simp)
    have H3 := Lib.hid (show Has W w3 (AL a3 c3 (l ++ [true]) oa1 oc1 OV1 (Hp.blk fb (.cells #[.int .i64 (V : Int), .slice a cs.length c] 24 (0, 0)) :: Hp.row 4 1 (.slice la l.length lc) l.length (bv l) :: Ps)) from by
      unfold AL
      rw [HStrue.out]
      exact h3.ord 5 [0, 3, 4, 1, 2])
    clear h3 hb H4
    go_wp2
    refine Mid.intro ⟨⟨again_row (T := 24) (cs := [.int .i64 (V : Int), .slice a cs.length c]) rfl rfl rfl Try.underlying24 rfl (by kernel_rfl) (fun j v hj => ?rngtrue) rfl, trivial⟩, ?_⟩
    case rngtrue =>
      rw [Nat.zero_add, heap_eq_cell Hb.out, ← hj]
      exact (Array.getElem?_toList (xs := #[Value.int .i64 (V : Int), .slice a cs.length c])).symm
    clear Hb
    have HWtrue := Lib.hid (IH.out H3.out (FormSrc.more HF.out fun P hP => by simp [hP]) (by rw [HStrue.out]; have := HK.out.1; omega) HOL.out)
    rw [HStrue.out] at HWtrue
    go_wp2_with fail
    refine HWtrue.out.mono ?_
    clear HWtrue H3
    rintro e w5 ⟨OV2, oa2, oc2, hO2, rfl, h6⟩
    have HO2 := Lib.hid hO2
    have H6 := Lib.hid h6
    clear hO2 h6 c0 c1 cl
    go_wp2
    refine Mid.intro ⟨trivial, Strict.intro rfl ?_⟩
    go_wp2
    go_ret
    exact ⟨OV2, oa2, oc2, by rw [HO2.out, HE.out, HO1.out], rfl, H6.out.ord 4 [0, 1]⟩
theorem Ralls_calls {W : World} {V n most : Nat} {a : Option Addr} {c : Nat} {cs : List (List Int)} (hy : AllHyp V n most cs) : ∀ k, AllsAt W V n most a c cs k
  | 0 => Ralls_zero hy
  | k + 1 => Ralls_succ hy (Ralls_calls hy k)
set_option maxHeartbeats 8000000 in
theorem RAll_calls {W w : World} {Ps : List Res} (h : Has W w Ps) {V : Nat} {a : Option Addr} {c : Nat} {cs : List (List Int)} (hF : FormSrc W Ps a c cs) (hs : ∀ r ∈ cs, r.length ≤ 1000000) {n most : Int} :
    Calls Try.prog 17 #[.agg #[.int .i64 (V : Int), .slice a cs.length c], .int .i64 n, .int .i64 most] w (AllPost W Ps V cs n most) := by
  have H0 := Lib.hid (h.newBlk (.cells #[.int .i64 (V : Int), .slice a cs.length c] 24 (0, 0)))
  have HF := Lib.hid hF
  have HS := Lib.hid hs
  clear h hF hs
  go_enter Try.func17, Try.ntmps17
  go_wp2_with fail
  refine (R40Right_calls (HF.out _ _ H0.out fun P hP => List.mem_cons_of_mem _ hP)).mono ?_
  rintro e w1 ⟨rfl, hf1⟩
  obtain ⟨R, hR⟩ : ∃ R, rightF V cs = R := ⟨_, rfl⟩
  rw [hR]
  have H1 := Lib.hid (H0.out.step hf1)
  obtain ⟨fb, hfb⟩ : ∃ b, w.heap.size = b := ⟨_, rfl⟩
  rw [hfb] at H1 ⊢
  have HR := Lib.hid hR
  have hb := H1.out.blk
  have c0 : _ = some _ := heap_eq_cell hb 0
  have c1 : _ = some _ := heap_eq_cell hb 1
  have cl := lt_of_block hb
  clear hf1 H0 hfb hR hb
  cases R with
  | false =>
    go_wp2
    go_ret2
    exact .inl ⟨by unfold goodA; rw [HR.out]; rfl, rfl, H1.out.drop⟩
  | true =>
    by_cases h0 : n < 0
    · have b0 : decide (n < 0) = true := by simpa using h0
      go_wp2
      go_ret2
      exact .inl ⟨by unfold goodA; simp; omega, rfl, H1.out.drop⟩
    by_cases h1 : n > V
    · have b0 : decide (n < 0) = false := by simpa using h0
      have b1 : decide (n > (V : Int)) = true := by simpa using h1
      go_wp2
      go_ret2
      exact .inl ⟨by unfold goodA; simp; omega, rfl, H1.out.drop⟩
    by_cases h2 : most < 0
    · have b0 : decide (n < 0) = false := by simpa using h0
      have b1 : decide (n > (V : Int)) = false := by simpa using h1
      have b2 : decide (most < 0) = true := by simpa using h2
      go_wp2
      go_ret2
      exact .inl ⟨by unfold goodA; simp; omega, rfl, H1.out.drop⟩
    by_cases h3 : most > 262144
    · have b0 : decide (n < 0) = false := by simpa using h0
      have b1 : decide (n > (V : Int)) = false := by simpa using h1
      have b2 : decide (most < 0) = false := by simpa using h2
      have b3 : decide (most > 262144) = true := by simpa using h3
      go_wp2
      go_ret2
      exact .inl ⟨by unfold goodA; simp; omega, rfl, H1.out.drop⟩
    have b0 : decide (n < 0) = false := by simpa using h0
    have b1 : decide (n > (V : Int)) = false := by simpa using h1
    have b2 : decide (most < 0) = false := by simpa using h2
    have b3 : decide (most > 262144) = false := by simpa using h3
    have HG := Lib.hid (show goodA V cs n most = true by unfold goodA; rw [HR.out]; simp; omega)
    obtain ⟨n, rfl⟩ : ∃ k : Nat, n = (k : Int) := ⟨n.toNat, by omega⟩
    obtain ⟨most, rfl⟩ : ∃ k : Nat, most = (k : Int) := ⟨most.toNat, by omega⟩
    have bn1 : decide (V < n) = false := by simp; omega
    have bn3 : decide (262144 < most) = false := by simp; omega
    obtain ⟨hcl, hV, hlit⟩ := rightF_len HR.out
    have hL : Lits V cs := hlit
    have HY := Lib.hid (show AllHyp V n most cs from ⟨lits_ok HR.out HS.out, hcl, hV, hL, by omega, by omega⟩)
    have HA := Lib.hid (Ralls_calls HY.out n (w := w1) (Ps := Hp.blk fb (.cells #[.int .i64 (V : Int), .slice a cs.length c] 24 (0, 0)) :: Ps) (la := none) (lc := 0) (l := []) (oa := none) (oc := 0) (OV := []) (by
      have h5 := ((H1.out.bunNil).nilRow 25 1).nilRow 4 1
      exact h5) (FormSrc.more HF.out fun P hP => List.mem_cons_of_mem _ hP) (by simp) (by simp))
    have HFE := Lib.hid (show (allR cs V most n [] []).length ≤ most + 1 ∧ allR cs V most n [] [] = (firsts n (Sols V cs)).take (most + 1) from by
      have e1 := allR_eq (most := most) hL (k := n) (l := []) (out := []) (by simp; omega)
      rw [if_neg (by simp), List.nil_append] at e1
      have e2 := firsts_eq hL (n := n) (by omega)
      unfold Sols
      rw [e1, e2]
      exact ⟨List.length_take_le _ _, rfl⟩)
    rw [List.length_nil, List.length_nil] at HA
    clear h0 h1 h2 h3 hcl hV hlit hL
    go_wp2_with fail
    refine HA.out.mono ?_
    rintro e w4 ⟨OV, oa, oc, hO, rfl, h4⟩
    obtain ⟨m, hm⟩ : ∃ m, OV.length = m := ⟨_, rfl⟩
    have HO := Lib.hid (And.intro hO hm)
    rw [hm] at h4 ⊢
    have H4 := Lib.hid h4
    clear hO hm h4 H1 c0 c1 cl HA b0 b1 b2 b3
    have hlen : (OV.map (·.2)).length = m := by rw [List.length_map]; exact HO.out.2
    by_cases hmm : most < m
    · have b4 : decide (most < m) = true := by simpa using hmm
      have HF2 := Lib.hid (show most < (firsts n (Sols V cs)).length from by
        have h1 := congrArg List.length HO.out.1
        rw [hlen, List.map_nil, HFE.out.2, List.length_take] at h1
        omega)
      clear hmm hlen
      go_wp2
      go_ret2
      exact .inr (.inl ⟨HG.out, HF2.out, rfl, H4.out.drop.drop.drop⟩)
    · have b4 : decide (most < m) = false := by simpa using hmm
      have HF2 := Lib.hid (show OV.map (·.2) = firsts n (Sols V cs) from by
        have h1 := congrArg List.length HO.out.1
        rw [hlen, List.map_nil, HFE.out.2, List.length_take] at h1
        rw [HO.out.1, List.map_nil, HFE.out.2, List.take_of_length_le (by omega)])
      have HLE := Lib.hid (show OV.length ≤ ((most : Nat) : Int).toNat from by rw [HO.out.2]; simp; omega)
      clear hmm hlen
      go_wp2
      go_ret2
      exact .inr (.inr ⟨HG.out, OV, _, HF2.out, HLE.out, rfl, by rw [HO.out.2]; exact H4.out.ord 3 [0, 1]⟩)
end Go.Proofs.Ytjidldfnlejdhaa
end

section
/- The reference's Next. -/
namespace Go.Proofs.Ytjidldfnlejdhaa
open Go Go.RowKit Go.Proofs.Rg Go.Proofs.Mp Go.Proofs.Hp Go.Proofs.Sv
set_option linter.unusedVariables false
set_option linter.unusedSimpArgs false
def goodN (V : Nat) (cs : List (List Int)) (n : Int) (after : List Bool) : Bool := rightF V cs && decide (0 ≤ n) && decide (n ≤ V) && decide ((after.length : Int) = n)
def NxPost (W : World) (Ps : List Res) (V : Nat) (cs : List (List Int)) (n : Int) (after : List Bool) (e : Ending) (w' : World) : Prop :=
  (goodN V cs n after = false ∧ e = .returned (.tuple #[.slice none 0 0, .bool false, .int .i64 2]) ∧ Has W w' Ps) ∨
  (goodN V cs n after = true ∧ nextR cs V after after.length = none ∧ e = .returned (.tuple #[.slice none 0 0, .bool false, .int .i64 0]) ∧ Has W w' Ps) ∨
  (goodN V cs n after = true ∧ ∃ x a c Qs, nextR cs V after after.length = some x ∧ e = .returned (.tuple #[.slice a (x.take after.length).length c, .bool true, .int .i64 0]) ∧ Has W w' (Qs ++ Ps) ∧ BoolsSrc W (Qs ++ Ps) a c (x.take after.length))
theorem BoolsSrc.take {W : World} {Ps : List Res} {a : Option Addr} {c : Nat} {l : List Bool} (h : BoolsSrc W Ps a c l) {k : Nat} (hk : k ≤ l.length) : BoolsSrc W Ps a c (l.take k) := fun w Qs hw hP => by
  obtain ⟨⟨_, a', c', he, hp⟩, h2⟩ := h w Qs hw hP
  have hl : (l.take k).length = k := by rw [List.length_take]; omega
  cases he
  refine ⟨⟨by rw [bv_length]; omega, _, _, rfl, fun h0 => ?_⟩, by rw [hl]; omega⟩
  obtain ⟨g, off, ha, hg, hc⟩ := hp (by omega)
  refine ⟨g, off, ha, hg, fun i u hu => hc i u ?_⟩
  have hik : i < k := by
    have := (List.getElem?_eq_some_iff.1 hu).1
    rw [bv_length, hl] at this
    exact this
  unfold bv at hu ⊢
  rw [List.map_take, List.getElem?_take_of_lt hik] at hu
  exact hu
set_option maxHeartbeats 8000000 in
theorem RNext_calls {W w : World} {Ps : List Res} (h : Has W w Ps) {V : Nat} {a : Option Addr} {c : Nat} {cs : List (List Int)} (hF : FormSrc W Ps a c cs) (hs : ∀ r ∈ cs, r.length ≤ 1000000) {n : Int} {la : Option Addr} {lc : Nat} {l : List Bool} (hl : BoolsSrc W Ps la lc l) (hll : l.length ≤ 70000) :
    Calls Try.prog 14 #[.agg #[.int .i64 (V : Int), .slice a cs.length c], .int .i64 n, .slice la l.length lc] w (NxPost W Ps V cs n l) := by
  have H0 := Lib.hid (h.newBlk (.cells #[.int .i64 (V : Int), .slice a cs.length c] 24 (0, 0)))
  have HF := Lib.hid hF
  have HS := Lib.hid hs
  have HL := Lib.hid hl
  clear h hF hs hl
  go_enter Try.func14, Try.ntmps14
  go_wp2_with fail
  refine (R40Right_calls (HF.out _ _ H0.out fun P hP => List.mem_cons_of_mem _ hP)).mono ?_
  rintro e w1 ⟨rfl, hf1⟩
  obtain ⟨R, hR⟩ : ∃ R, rightF V cs = R := ⟨_, rfl⟩
  rw [hR]
  have H1 := Lib.hid (H0.out.step hf1)
  obtain ⟨fb, hfb⟩ : ∃ b, w.heap.size = b := ⟨_, rfl⟩
  rw [hfb] at H1 ⊢
  have HR := Lib.hid hR
  have hb := H1.out.blk
  have c0 : _ = some _ := heap_eq_cell hb 0
  have c1 : _ = some _ := heap_eq_cell hb 1
  have cl := lt_of_block hb
  clear hf1 H0 hfb hR hb
  cases R with
  | false =>
    go_wp2
    go_ret3
    exact .inl ⟨by unfold goodN; rw [HR.out]; rfl, rfl, H1.out.drop⟩
  | true =>
    by_cases h0 : n < 0
    · have b0 : decide (n < 0) = true := by simpa using h0
      go_wp2
      go_ret3
      exact .inl ⟨by unfold goodN; simp; omega, rfl, H1.out.drop⟩
    by_cases h1 : n > V
    · have b0 : decide (n < 0) = false := by simpa using h0
      have b1 : decide (n > (V : Int)) = true := by simpa using h1
      go_wp2
      go_ret3
      exact .inl ⟨by unfold goodN; simp; omega, rfl, H1.out.drop⟩
    by_cases h2 : (l.length : Int) = n
    case neg =>
      have b0 : decide (n < 0) = false := by simpa using h0
      have b1 : decide (n > (V : Int)) = false := by simpa using h1
      have b2 : ((l.length : Int) != n) = true := by simpa using h2
      go_wp2
      go_ret3
      exact .inl ⟨by unfold goodN; simp; omega, rfl, H1.out.drop⟩
    have b0 : decide (n < 0) = false := by simpa using h0
    have b1 : decide (n > (V : Int)) = false := by simpa using h1
    obtain ⟨m, hm⟩ : ∃ m, l.length = m := ⟨_, rfl⟩
    rw [hm] at h2
    subst h2
    have HG := Lib.hid (show goodN V cs (m : Int) l = true by unfold goodN; rw [HR.out, hm]; simp; omega)
    have b2 : ((m : Int) != (m : Int)) = false := by simp
    obtain ⟨N, hN⟩ : ∃ N, nextR cs V l l.length = N := ⟨_, rfl⟩
    have HN := Lib.hid hN
    have HM := Lib.hid hm
    have hmV : m ≤ V := by omega
    have bn1 : decide (V < m) = false := by simp; omega
    obtain ⟨hcl, hV, _⟩ := rightF_len HR.out
    have HC := Lib.hid (fun k => @Rcomplete_calls W V a c cs (lits_ok HR.out HS.out) hcl hV k)
    have hw1 : IntKind.i64.wrap ((m : Int) - 1) = (m : Int) - 1 := IntWalk.i64_in _ (by omega)
    rw [hm] at hll ⊢
    clear h0 h1 hcl hV hm hN
    go_wp2
    go_loopg [9] m (fun gg z wr => ∃ (i : Nat) (zi : Int), i ≤ m ∧ i ≤ gg ∧ z = .int .i64 zi ∧ Hid (zi = (i : Int) - 1) ∧ Hid (nextR cs V l i = N) ∧ Hid (Has W wr (Hp.blk fb (.cells #[.int .i64 (V : Int), .slice a cs.length c] 24 (0, 0)) :: Ps)))
    case atStart => exact ⟨m, _, Nat.le_refl _, Nat.le_refl _, rfl, Lib.hid rfl, Lib.hid (by rw [← HM.out]; exact HN.out), H1⟩
    case round =>
      obtain ⟨i, zi, hi, hg, rfl, HZI, HI, H⟩ := hrel
      clear H1 c0 c1 cl
      have hb := H.out.blk
      have c0 : _ = some _ := heap_eq_cell hb 0
      have c1 : _ = some _ := heap_eq_cell hb 1
      have cl := lt_of_block hb
      have Hb := Lib.hid hb
      clear hb
      rcases i with _ | j
      · obtain rfl : zi = -1 := by rw [HZI.out]; rfl
        have HE := Lib.hid (show N = none from by rw [← HI.out]; rfl)
        go_wp2
        go_ret3
        exact .inr (.inl ⟨HG.out, HN.out.trans HE.out, rfl, H.out.drop⟩)
      · obtain rfl : zi = (j : Int) := by rw [HZI.out]; omega
        have hjm : j < m := by omega
        have hw2 : IntKind.i64.wrap ((j : Int) - 1) = (j : Int) - 1 := IntWalk.i64_in _ (by omega)
        obtain ⟨b, hbj⟩ : ∃ b, l[j]? = some b := ⟨_, List.getElem?_eq_getElem (by rw [HM.out]; exact hjm)⟩
        have hla := HL.out _ _ H.out fun P hP => List.mem_cons_of_mem _ hP
        obtain ⟨g, off, rfl, hgl, hc⟩ := BoolsAt.get hla.1 hbj
        have hmc : m ≤ lc := by have := hla.2; rw [HM.out] at this; exact this
        have HB := Lib.hid (show nextR cs V l (j + 1) = if b then nextR cs V l j else (complete cs (V - (j + 1)) (l.take j ++ [true])).or (nextR cs V l j) from by
          rw [nextR, List.getD_eq_getElem?_getD, hbj]; rfl)
        clear hla hbj
        cases b with
        | true =>
          go_wp2
          go_roundg j
          case measure => omega
          case rel => exact ⟨j, _, by omega, Nat.le_refl _, rfl, Lib.hid rfl, Lib.hid (by rw [← HI.out, HB.out]; rfl), H⟩
        | false =>
          have hjl : (l.take j).length = j := by rw [List.length_take, HM.out]; omega
          have HJL := Lib.hid hjl
          have HW := Lib.hid (fun w' (hf' : Fr [] wr w') => Rwith_h (H.out.step hf') (la := some ⟨g, off, none⟩) (lc := lc) (l := l.take j) (BoolsSrc.take (HL.out.more fun P hP => List.mem_cons_of_mem _ hP) (by rw [HM.out]; omega)) (by rw [hjl]; omega) true)
          rw [hjl] at HW
          clear hjl
          go_wp2
          refine wp_region_segs [([0, 1, 2, 3, 4], [0]), ([5, 6, 7, 8, 9, 10], [])] (by kernel_rfl) (by kernel_rfl) ?_
          (simp only [wpSegs, pick, Array.getD_eq_getD_getElem?, List.getElem?_toArray, List.getElem?_cons_succ, List.getElem?_cons_zero, Option.getD_some])
          go_wp2_with fail
          refine (HW.out _ (by (repeat first | exact Fr.refl _ _ | assumption | apply Fr.n | apply Fr.d | apply Fr.a | refine Fr.s ?_ (.inr (by simp; try omega)) _))).mono ?_
          rintro e w3 ⟨a3, c3, rfl, h3⟩
          have hb := (h3.bring 1).blk
          clear c0 c1 cl Hb HW
          have c0 : _ = some _ := heap_eq_cell hb 0
          have c1 : _ = some _ := heap_eq_cell hb 1
          have cl := lt_of_block hb
          have Hb := Lib.hid hb
          have H3 := Lib.hid h3
          clear h3 hb
          go_wp2
          refine Mid.intro ⟨⟨again_row (T := 24) (cs := [.int .i64 (V : Int), .slice a cs.length c]) rfl rfl rfl Try.underlying24 rfl (by kernel_rfl) (fun j v hj => ?rng) rfl, trivial⟩, ?_⟩
          case rng =>
            rw [Nat.zero_add, heap_eq_cell Hb.out, ← hj]
            exact (Array.getElem?_toList (xs := #[Value.int .i64 (V : Int), .slice a cs.length c])).symm
          clear Hb
          have hsl : (l.take j ++ [true]).length = j + 1 := by rw [List.length_append, HJL.out]; rfl
          have HCC := Lib.hid (HC.out (V - (j + 1)) H3.out (HF.out.more fun P hP => List.mem_cons_of_mem _ (List.mem_cons_of_mem _ hP)) (la := a3) (lc := c3) (l := l.take j ++ [true]) (BoolsSrc.row hsl (by simp)) (by rw [hsl]; omega))
          rw [hsl] at HCC
          clear hsl
          go_wp2_with fail
          refine HCC.out.mono ?_
          rintro e w4 h4
          rcases h4 with ⟨hc4, rfl, h4⟩ | ⟨x, ax, cx, Qs, hc4, rfl, h4, hs4⟩
          · have H4 := Lib.hid h4.drop
            have HC4 := Lib.hid hc4
            clear h4 hc4 H3 HCC c0 c1 cl hc hgl
            go_wp2
            refine Mid.intro ⟨trivial, Strict.intro rfl ?_⟩
            go_wp2
            go_roundg j
            case measure => omega
            case rel => exact ⟨j, _, by omega, Nat.le_refl _, rfl, Lib.hid rfl, Lib.hid (by rw [← HI.out, HB.out, HC4.out]; rfl), H4⟩
          · have hxl : x.length = V := by
              have := (complete_some (cs := cs) (k := V - (j + 1)) (l := l.take j ++ [true]) (by rw [List.length_append, HJL.out, show j + [true].length + (V - (j + 1)) = V by simp; omega]; exact (rightF_len HR.out).2.2) hc4).1
              rw [List.length_append, HJL.out] at this
              simp at this
              omega
            have hcx := (hs4 _ _ h4 fun P hP => hP).2
            have hmx : m ≤ x.length := by omega
            have hmcx : m ≤ cx := by omega
            have HE := Lib.hid (show N = some x from by rw [← HI.out, HB.out, hc4]; rfl)
            have htl : (x.take m).length = m := by rw [List.length_take]; omega
            have HTL := Lib.hid htl
            have HSS := Lib.hid (hs4.take hmx)
            have H4 := Lib.hid h4
            have hax : ax = none → m = 0 := fun e0 => by
              subst e0
              obtain ⟨⟨_, a', c', he, hp⟩, _⟩ := hs4 _ _ h4 fun P hP => hP
              cases he
              rcases Nat.eq_zero_or_pos x.length with h | h
              · omega
              · obtain ⟨g, off, hh, _⟩ := hp h; cases hh
            clear h4 hc4 hs4 H3 HCC c0 c1 cl hc hgl htl hcx
            cases ax with
            | none => exact absurd (hax rfl) (by omega)
            | some ad =>
              go_wp2
              refine Mid.intro ⟨trivial, Strict.intro rfl ?_⟩
              go_wp2
              go_ret3
              refine .inr (.inr ⟨HG.out, x, some ad, cx, _, HN.out.trans HE.out, ?_, (show Has W _ ((Qs ++ [_, _]) ++ Ps) from by rw [List.append_assoc]; exact H4.out), ?_⟩)
              · rw [HM.out, HTL.out]; rfl
              · rw [List.append_assoc, HM.out]
                exact HSS.out
end Go.Proofs.Ytjidldfnlejdhaa
end
