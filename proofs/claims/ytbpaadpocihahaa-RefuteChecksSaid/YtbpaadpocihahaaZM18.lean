/- Own texts of this claim, part 19: no condition. -/
import Derived.OwnWalk
import Derived.Test.YtbpaadpocihahaaZM17
set_option linter.unusedVariables false
set_option linter.unusedSimpArgs false
section
/- The reference R40: opposed, before, literals, rest, sorted. -/
namespace Go.Proofs.Ytbpaadpocihahaa
open Go Go.RowKit Go.Proofs.Rg Go.Proofs.Mp Go.Proofs.Hp Go.Proofs.Sv Go.Proofs.Rp
set_option linter.unusedVariables false
set_option linter.unusedSimpArgs false
set_option maxHeartbeats 4000000 in
theorem opposed_calls {w : World} {a : Option Addr} {c : Nat} {l : List Int} (h : IntsAt w (.slice a l.length c) l) (hl : l.length ≤ 9000000) (hV : ∀ x ∈ l, x.natAbs ≤ 65536) :
    Calls Try.prog 51 #[.slice a l.length c] w fun e w' => e = .returned (.bool (contraB l)) ∧ w' = w := by
  have HI := Lib.hid h
  have HV := Lib.hid hV
  have HH := Lib.hid (fun x => has40_calls (x := x) h hl)
  obtain ⟨n, hn⟩ : ∃ n, l.length = n := ⟨_, rfl⟩
  rw [hn] at hl HH ⊢
  have HN := Lib.hid hn
  clear h hn hV
  go_enter Try.func51, Try.ntmps51
  go_wp2
  go_loopg [3] n (fun gg z wr => ∃ i : Nat, i ≤ n ∧ n - i ≤ gg ∧ z = .int .i64 (i : Int) ∧ wr = w ∧ Hid (∀ x ∈ l.take i, l.contains (-x) = false))
  case atStart => exact ⟨0, Nat.zero_le _, by omega, rfl, rfl, Lib.hid (by simp)⟩
  case round =>
    obtain ⟨i, hi, hg, rfl, rfl, HA⟩ := hrel
    by_cases hin : i < n
    · obtain ⟨y, hy⟩ : ∃ y, l[i]? = some y := ⟨_, List.getElem?_eq_getElem (by rw [HN.out]; exact hin)⟩
      obtain ⟨g, off, rfl, hgl, hc⟩ := IntsAt.get HI.out hy
      have hyV := HV.out y (List.mem_of_getElem? hy)
      have hw1 : IntKind.i64.wrap (-y) = -y := IntWalk.i64_in _ (by omega)
      have htk : l.take (i + 1) = l.take i ++ [y] := by rw [List.take_add_one, hy]; rfl
      have HTK := Lib.hid htk
      have HY := Lib.hid hy
      obtain ⟨b, hb⟩ : ∃ b, l.contains (-y) = b := ⟨_, rfl⟩
      have HB := Lib.hid hb
      clear hy htk hyV hb
      go_wp2_with fail
      refine (HH.out (-y)).mono ?_
      rw [HB.out]
      rintro e w2 ⟨rfl, hw2⟩
      subst hw2
      cases b with
      | true =>
        have HC := Lib.hid (show contraB l = true from List.any_eq_true.2 ⟨y, List.mem_of_getElem? HY.out, HB.out⟩)
        go_wp2
        go_ret
        exact ⟨by rw [HC.out]; rfl, rfl⟩
      | false =>
        go_wp2
        go_roundg (n - (i + 1))
        case measure => omega
        case rel =>
          refine ⟨i + 1, hin, Nat.le_refl _, by simp, rfl, Lib.hid fun x hx => ?_⟩
          rw [HTK.out] at hx
          rcases List.mem_append.1 hx with hx | hx
          · exact HA.out x hx
          · simp at hx; rw [hx]; exact HB.out
    · obtain rfl : i = n := by omega
      have HC := Lib.hid (show contraB l = false from by
        have := HA.out
        rw [List.take_of_length_le (by rw [HN.out]; exact Nat.le_refl _)] at this
        unfold contraB
        rw [List.any_eq_false]
        intro x hx
        rw [this x hx]; exact Bool.false_ne_true)
      clear HA
      go_wp2
      go_ret
      exact ⟨by rw [HC.out]; rfl, rfl⟩
theorem before_calls {w : World} {x y : Int} (hx : x.natAbs ≤ 65536) (hy : y.natAbs ≤ 65536) : Calls Try.prog 65 #[.int .i64 x, .int .i64 y] w fun e w' => (∃ b, e = .returned (.bool b)) ∧ w' = w := by
  have hw1 : IntKind.i64.wrap (-x) = -x := IntWalk.i64_in _ (by omega)
  have hw2 : IntKind.i64.wrap (-y) = -y := IntWalk.i64_in _ (by omega)
  obtain ⟨m1, h1⟩ : ∃ m, max x (-x) = m := ⟨_, rfl⟩
  obtain ⟨m2, h2⟩ : ∃ m, max y (-y) = m := ⟨_, rfl⟩
  have hmx := fun w => run_max2 (x := x) (m := m1) h1 w
  have hmy := fun w => run_max2 (x := y) (m := m2) h2 w
  obtain ⟨b1, hb1⟩ : ∃ b, decide (m1 < m2) = b := ⟨_, rfl⟩
  obtain ⟨b2, hb2⟩ : ∃ b, (m1 == m2) = b := ⟨_, rfl⟩
  clear h1 h2 hx hy
  cases b1 <;> cases b2
  all_goals
    go_enter Try.func65, Try.ntmps65
    go_wp2
    go_ret
    exact ⟨⟨_, rfl⟩, rfl⟩
set_option maxHeartbeats 4000000 in
theorem literals_calls {w : World} {V : Int} (hV : 0 ≤ V ∧ V ≤ 65536) {fa : Option Addr} {fn fc : Nat} {a : Option Addr} {c : Nat} {l : List Int} (h : IntsAt w (.slice a l.length c) l) (hl : l.length ≤ 9000000) :
    Calls Try.prog 48 #[.agg #[.int .i64 V, .slice fa fn fc], .slice a l.length c] w fun e w' => e = .returned (.bool (l.all (okLit V))) ∧ Fr [] w w' := by
  have HI := Lib.hid h
  have HV := Lib.hid hV
  have H0 := Lib.hid ((Has.nil (Fr.refl [] w)).newBlk (.cells #[.int .i64 V, .slice fa fn fc] 24 (0, 0)))
  obtain ⟨n, hn⟩ : ∃ n, l.length = n := ⟨_, rfl⟩
  rw [hn] at hl ⊢
  have HN := Lib.hid hn
  clear h hn hV
  go_enter Try.func48, Try.ntmps48
  go_wp2
  go_loopg [5] n (fun gg z wr => ∃ i : Nat, i ≤ n ∧ n - i ≤ gg ∧ z = .int .i64 (i : Int) ∧ Hid ((l.take i).all (okLit V) = true) ∧ Hid (Has w wr [Hp.blk w.heap.size (.cells #[.int .i64 V, .slice fa fn fc] 24 (0, 0))]))
  case atStart => exact ⟨0, Nat.zero_le _, by omega, rfl, Lib.hid (by simp), Lib.hid (H0.out.step (by (repeat first | exact Fr.refl _ _ | assumption | apply Fr.n | apply Fr.d | apply Fr.a | refine Fr.s ?_ (.inr (by simp; try omega)) _)))⟩
  case round =>
    obtain ⟨i, hi, hg, rfl, HA, HH⟩ := hrel
    clear H0
    have hb := HH.out.blk
    have f0 : _ = some _ := heap_eq_cell hb 0
    have fl := lt_of_block hb
    clear hb
    by_cases hin : i < n
    · obtain ⟨y, hy⟩ : ∃ y, l[i]? = some y := ⟨_, List.getElem?_eq_getElem (by rw [HN.out]; exact hin)⟩
      have hI := HI.out.fr HH.out.fr
      obtain ⟨g, off, rfl, hgl, hc⟩ := IntsAt.get hI hy
      have htk : l.take (i + 1) = l.take i ++ [y] := by rw [List.take_add_one, hy]; rfl
      have HTK := Lib.hid htk
      have HY := Lib.hid hy
      obtain ⟨ok, hok⟩ : ∃ b, okLit V y = b := ⟨_, rfl⟩
      have HOK := Lib.hid hok
      clear hI hy htk hok
      go_wp2
      (refine wp_region_text (by kernel_rfl) (by kernel_rfl) ?_)
      go_wp2_with fail
      refine (Rliteral_calls HV.out).mono ?_
      rintro e w2 ⟨rfl, rfl⟩
      rw [HOK.out]
      cases ok with
      | true =>
        go_wp2
        refine Strict.intro rfl ?_
        go_wp2
        go_roundg (n - (i + 1))
        case measure => omega
        case rel => exact ⟨i + 1, hin, Nat.le_refl _, by simp, Lib.hid (by rw [HTK.out, List.all_append, HA.out]; simp [HOK.out]), Lib.hid (HH.out.step (by (repeat first | exact Fr.refl _ _ | assumption | apply Fr.n | apply Fr.d | apply Fr.a | refine Fr.s ?_ (.inr (by simp; try omega)) _)))⟩
      | false =>
        have HR := Lib.hid (show l.all (okLit V) = false from by
          rw [List.all_eq_false]
          exact ⟨y, List.mem_of_getElem? HY.out, by rw [HOK.out]; exact Bool.false_ne_true⟩)
        go_wp2
        refine Strict.intro rfl ?_
        go_wp2
        go_ret
        exact ⟨by rw [HR.out]; rfl, (HH.out.step (by (repeat first | exact Fr.refl _ _ | assumption | apply Fr.n | apply Fr.d | apply Fr.a | refine Fr.s ?_ (.inr (by simp; try omega)) _))).fr⟩
    · obtain rfl : n = i := by omega
      have h2 := HA.out
      rw [List.take_of_length_le (by rw [HN.out]; exact Nat.le_refl _)] at h2
      have HR := Lib.hid h2
      clear h2 HA
      go_wp2
      go_ret
      exact ⟨by rw [HR.out]; rfl, (HH.out.step (by (repeat first | exact Fr.refl _ _ | assumption | apply Fr.n | apply Fr.d | apply Fr.a | refine Fr.s ?_ (.inr (by simp; try omega)) _))).fr⟩
def restD (l all : List Int) : List Int := l.filter fun x => !all.contains (-x)
def RestPost (W : World) (Ps : List Res) (l all : List Int) (e : Ending) (w' : World) : Prop :=
  ((∃ x ∈ l, x ∈ all) ∧ e = .returned (.tuple #[.slice none 0 0, .bool true]) ∧ Has W w' Ps) ∨
  ((∀ x ∈ l, x ∉ all) ∧ ∃ va vc, e = .returned (.tuple #[.slice va (restD l all).length vc, .bool false]) ∧ Has W w' (Hp.row 3 1 (.slice va (restD l all).length vc) (restD l all).length (iv (restD l all)) :: Ps))
theorem restD_next {l all : List Int} {i : Nat} {y : Int} (h : l[i]? = some y) : restD (l.take (i + 1)) all = restD (l.take i) all ++ if all.contains (-y) then [] else [y] := by
  unfold restD
  rw [List.take_add_one, h, List.filter_append]
  congr 1
  cases hb : all.contains (-y) <;> simp only [Option.toList_some, List.filter_cons, hb, List.filter_nil] <;> rfl
set_option maxHeartbeats 8000000 in
theorem rest_calls {W w : World} {Ps : List Res} (h : Has W w Ps) {a : Option Addr} {c : Nat} {l : List Int} (hr : IntsSrc W Ps a c l) (hl : l.length ≤ 1000000) (hV : ∀ x ∈ l, x.natAbs ≤ 65536) {b : Option Addr} {d : Nat} {all : List Int} (hb : IntsSrc W Ps b d all) (hal : all.length ≤ 9000000) :
    Calls Try.prog 49 #[.slice a l.length c, .slice b all.length d] w (RestPost W Ps l all) := by
  have HS := Lib.hid hr
  have HV := Lib.hid hV
  have HHAS := Lib.hid (fun (x : Int) w' (Qs : List Res) (hw : Has W w' Qs) (hs : ∀ P ∈ Ps, P ∈ Qs) => has40_calls (x := x) (hb w' Qs hw hs) hal)
  have H := Lib.hid (has_zero h 3)
  obtain ⟨n, hn⟩ : ∃ n, l.length = n := ⟨_, rfl⟩
  obtain ⟨m, hm⟩ : ∃ n, all.length = n := ⟨_, rfl⟩
  rw [hn] at hl ⊢
  rw [hm] at HHAS ⊢
  have HN := Lib.hid hn
  clear h hr hn hV hb hal hm
  go_enter Try.func49, Try.ntmps49
  go_wp2
  go_loopg [6, 7] n (fun gg z6 z7 wr => ∃ (i t : Nat) (va : Option Addr) (vc : Nat), i ≤ n ∧ t ≤ i ∧ n - i ≤ gg ∧ z7 = .int .i64 (i : Int) ∧ z6 = .slice va t vc ∧ Hid ((restD (l.take i) all).length = t ∧ ∀ x ∈ l.take i, x ∉ all) ∧ Hid (Has W wr (Hp.row 3 1 (.slice va t vc) t (iv (restD (l.take i) all)) :: Ps)))
  case atStart => exact ⟨0, 0, _, 0, Nat.zero_le _, Nat.le_refl _, by omega, rfl, rfl, Lib.hid ⟨by rw [List.take_zero]; rfl, by simp⟩, Lib.hid (by rw [List.take_zero]; exact H.out.step (by (repeat first | exact Fr.refl _ _ | assumption | apply Fr.n | apply Fr.d | apply Fr.a | refine Fr.s ?_ (.inr (by simp; try omega)) _)))⟩
  case round =>
    obtain ⟨i, t, va, vc, hi, hti, hg, rfl, rfl, HT, HH⟩ := hrel
    clear H
    by_cases hin : i < n
    · obtain ⟨y, hy⟩ : ∃ y, l[i]? = some y := ⟨_, List.getElem?_eq_getElem (by rw [HN.out]; exact hin)⟩
      have hI := HS.out _ _ HH.out (fun P hP => List.mem_cons_of_mem _ hP)
      obtain ⟨g, off, rfl, hgl, hc⟩ := IntsAt.get hI hy
      have hyV := HV.out y (List.mem_of_getElem? hy)
      have hw1 : IntKind.i64.wrap (-y) = -y := IntWalk.i64_in _ (by omega)
      have hmaxl : (1000001 : Nat) ≤ maxLen := by decide
      have HLL := Lib.hid (show t + 1 ≤ maxLen ∧ (t + 1) * 8 ≤ 140737488355328 from by omega)
      have HY := Lib.hid hy
      have HNX := Lib.hid (restD_next (all := all) hy)
      have htk : l.take (i + 1) = l.take i ++ [y] := by rw [List.take_add_one, hy]; rfl
      have HTK := Lib.hid htk
      obtain ⟨b1, hb1⟩ : ∃ b, all.contains y = b := ⟨_, rfl⟩
      have HB1 := Lib.hid hb1
      obtain ⟨b2, hb2⟩ : ∃ b, all.contains (-y) = b := ⟨_, rfl⟩
      have HB2 := Lib.hid hb2
      clear hy hmaxl hI hyV htk hb1 hb2
      go_wp2_with fail
      refine (HHAS.out y _ _ (HH.out.step (by (repeat first | exact Fr.refl _ _ | assumption | apply Fr.n | apply Fr.d | apply Fr.a | refine Fr.s ?_ (.inr (by simp; try omega)) _))) fun P hP => List.mem_cons_of_mem _ hP).mono ?_
      rw [HB1.out]
      rintro e w2 ⟨rfl, hw2⟩
      subst hw2
      cases b1 with
      | true =>
        go_wp2
        go_ret2
        exact .inl ⟨⟨y, List.mem_of_getElem? HY.out, List.contains_iff_mem.1 HB1.out⟩, rfl, HH.out.drop.step (by (repeat first | exact Fr.refl _ _ | assumption | apply Fr.n | apply Fr.d | apply Fr.a | refine Fr.s ?_ (.inr (by simp; try omega)) _))⟩
      | false =>
        have HNB := Lib.hid (show y ∉ all from fun e => by have := HB1.out; rw [List.contains_iff_mem.2 e] at this; cases this)
        go_wp2_with fail
        refine (HHAS.out (-y) _ _ (HH.out.step (by (repeat first | exact Fr.refl _ _ | assumption | apply Fr.n | apply Fr.d | apply Fr.a | refine Fr.s ?_ (.inr (by simp; try omega)) _))) fun P hP => List.mem_cons_of_mem _ hP).mono ?_
        rw [HB2.out]
        rintro e w3 ⟨rfl, hw3⟩
        subst hw3
        have HNO := Lib.hid (show ∀ x ∈ l.take (i + 1), x ∉ all from fun x hx => by
          rw [HTK.out] at hx
          rcases List.mem_append.1 hx with hx | hx
          · exact HT.out.2 x hx
          · simp at hx; rw [hx]; exact HNB.out)
        cases b2 with
        | true =>
          have hnx : restD (l.take (i + 1)) all = restD (l.take i) all := by rw [HNX.out, HB2.out]; simp
          have HNY := Lib.hid hnx
          clear hnx
          go_wp2
          go_roundg (n - (i + 1))
          case measure => omega
          case rel => exact ⟨i + 1, t, va, vc, hin, by omega, Nat.le_refl _, by simp, rfl, Lib.hid ⟨by rw [HNY.out]; exact HT.out.1, HNO.out⟩, Lib.hid (by rw [HNY.out]; exact HH.out.step (by (repeat first | exact Fr.refl _ _ | assumption | apply Fr.n | apply Fr.d | apply Fr.a | refine Fr.s ?_ (.inr (by simp; try omega)) _)))⟩
        | false =>
          have hnx : restD (l.take (i + 1)) all = restD (l.take i) all ++ [y] := by rw [HNX.out, HB2.out]; simp
          have HNY := Lib.hid hnx
          clear hnx
          go_wp2_with (at_builtin; refine append_has (W := W) (size := 1) (bytes := 8) (z := .int .i64 0) (e := 3) (n := t) (xs := iv (restD (l.take i) all)) (news := [.int .i64 y]) rfl rfl Try.underlying25 (by kernel_rfl) rfl (by decide) rfl rfl (HH.out.step (by (repeat first | exact Fr.refl _ _ | assumption | apply Fr.n | apply Fr.d | apply Fr.a | refine Fr.s ?_ (.inr (by simp; try omega)) _))) (by (repeat first | rw [if_pos (by omega)] | rw [if_neg (by omega)] | rw [hp_drew] | rw [hp_drewN] | rw [hp_alloc_size] | rw [hp_setCell_size] | rw [hp_alloc] | rw [hp_setCell] | rw [oMS] | rw [upd_cells] | rw [lSZ] | rw [lSS] | rfl)) rfl (by simp [Value.oneCell']) HLL.out.1 HLL.out.2 ?_)
          intro g2 cap2 w5 h5 hf5 hg5
          rw [show iv (restD (l.take i) all) ++ [.int .i64 y] = iv (restD (l.take (i + 1)) all) from by rw [HNY.out]; simp [iv]] at h5
          have H5 := Lib.hid h5
          clear h5 hf5 hg5 HH hgl hc
          go_wp2
          go_roundg (n - (i + 1))
          case measure => omega
          case rel => exact ⟨i + 1, t + 1, some ⟨g2, 0, none⟩, cap2, hin, by omega, Nat.le_refl _, by simp, rfl, Lib.hid ⟨by rw [HNY.out, List.length_append, HT.out.1]; rfl, HNO.out⟩, Lib.hid (H5.out.step (by (repeat first | exact Fr.refl _ _ | assumption | apply Fr.n | apply Fr.d | apply Fr.a | refine Fr.s ?_ (.inr (by simp; try omega)) _)))⟩
    · obtain rfl : n = i := by omega
      have h2 := HH.out
      have ht := HT.out
      rw [List.take_of_length_le (by rw [HN.out]; exact Nat.le_refl _)] at h2 ht
      have H2 := Lib.hid h2
      have HT2 := Lib.hid ht
      clear h2 HH ht HT
      go_wp2
      go_ret2
      refine .inr ⟨HT2.out.2, va, vc, by rw [HT2.out.1]; rfl, ?_⟩
      rw [HT2.out.1]
      exact H2.out.step (by (repeat first | exact Fr.refl _ _ | assumption | apply Fr.n | apply Fr.d | apply Fr.a | refine Fr.s ?_ (.inr (by simp; try omega)) _))
end Go.Proofs.Ytbpaadpocihahaa
end

section
/- The reference R40: sorted. -/
namespace Go.Proofs.Ytbpaadpocihahaa
open Go Go.RowKit Go.Proofs.Rg Go.Proofs.Mp Go.Proofs.Hp Go.Proofs.Sv Go.Proofs.Rp
set_option linter.unusedVariables false
set_option linter.unusedSimpArgs false
def SortedPost (W : World) (Ps : List Res) (l : List Int) (e : Ending) (w' : World) : Prop :=
  ∃ (va : Option Addr) (vc : Nat) (S : List Int), e = .returned (.slice va S.length vc) ∧ S.Nodup ∧ (∀ x, x ∈ S ↔ x ∈ l) ∧ Has W w' (Hp.row 3 1 (.slice va S.length vc) S.length (iv S) :: Ps)
theorem put_in {S : List Int} {j : Nat} {y : Int} (hn : S.Nodup) (hy : y ∉ S) : (S.take j ++ (y :: S.drop j)).Nodup ∧ ∀ x, x ∈ S.take j ++ (y :: S.drop j) ↔ x ∈ S ∨ x = y := by
  have hp : (S.take j ++ (y :: S.drop j)).Perm (y :: S) := by
    have := List.perm_middle (a := y) (l₁ := S.take j) (l₂ := S.drop j)
    rwa [List.take_append_drop] at this
  refine ⟨hp.nodup_iff.2 (List.nodup_cons.2 ⟨hy, hn⟩), fun x => ?_⟩
  rw [hp.mem_iff, List.mem_cons, or_comm]
set_option maxHeartbeats 8000000 in
set_option maxRecDepth 100000 in
theorem sorted_calls {W w : World} {Ps : List Res} (h : Has W w Ps) {a : Option Addr} {c : Nat} {l : List Int} (hr : IntsSrc W Ps a c l) (hl : l.length ≤ 8000000) (hV : ∀ x ∈ l, x.natAbs ≤ 65536) :
    Calls Try.prog 50 #[.slice a l.length c] w (SortedPost W Ps l) := by
  have HS := Lib.hid hr
  have HV := Lib.hid hV
  have H := Lib.hid (h.nilRow 3 1)
  obtain ⟨n, hn⟩ : ∃ n, l.length = n := ⟨_, rfl⟩
  rw [hn] at hl ⊢
  have HN := Lib.hid hn
  clear h hr hn hV
  go_enter Try.func50, Try.ntmps50
  go_wp2
  go_loopg [3, 4] n (fun gg z3 z4 wr => ∃ (i k : Nat) (S : List Int) (va : Option Addr) (vc : Nat), i ≤ n ∧ k ≤ i ∧ n - i ≤ gg ∧ z3 = .slice va k vc ∧ z4 = .int .i64 (i : Int) ∧ Hid (S.length = k ∧ S.Nodup ∧ ∀ x, x ∈ S ↔ x ∈ l.take i) ∧ Hid (Has W wr (Hp.row 3 1 (.slice va k vc) k (iv S) :: Ps)))
  case atStart => exact ⟨0, 0, [], none, 0, Nat.zero_le _, Nat.le_refl _, by omega, rfl, rfl, Lib.hid ⟨rfl, List.nodup_nil, by simp⟩, Lib.hid (H.out.step (by (repeat first | exact Fr.refl _ _ | assumption | apply Fr.n | apply Fr.d | apply Fr.a | refine Fr.s ?_ (.inr (by simp; try omega)) _)))⟩
  case round =>
    obtain ⟨i, k, S, va, vc, hi, hki, hg, rfl, rfl, HSS, HH⟩ := hrel
    clear H
    by_cases hin : i < n
    · obtain ⟨y, hy⟩ : ∃ y, l[i]? = some y := ⟨_, List.getElem?_eq_getElem (by rw [HN.out]; exact hin)⟩
      have hI := HS.out _ _ HH.out (fun P hP => List.mem_cons_of_mem _ hP)
      obtain ⟨yg, off, rfl, hgl, hc⟩ := IntsAt.get hI hy
      have hia : IntsAt wr (.slice va S.length vc) S := by
        have := HH.out.rowReads
        rw [← HSS.out.1] at this
        exact this
      have HHAS := Lib.hid (fun w' (hf : Fr [] wr w') => has40_calls (x := y) (hia.fr hf) (by rw [HSS.out.1]; omega))
      rw [HSS.out.1] at HHAS
      have htk : l.take (i + 1) = l.take i ++ [y] := by rw [List.take_add_one, hy]; rfl
      have HTK := Lib.hid htk
      have HY := Lib.hid hy
      have HYV := Lib.hid (HV.out y (List.mem_of_getElem? hy))
      obtain ⟨b, hb⟩ : ∃ b, S.contains y = b := ⟨_, rfl⟩
      rw [hb] at HHAS
      have HB := Lib.hid hb
      clear hy hI hia htk hb
      go_wp2_with fail
      refine (HHAS.out _ (by (repeat first | exact Fr.refl _ _ | assumption | apply Fr.n | apply Fr.d | apply Fr.a | refine Fr.s ?_ (.inr (by simp; try omega)) _))).mono ?_
      rintro e w2 ⟨rfl, hw2⟩
      subst hw2
      clear HHAS
      cases b with
      | true =>
        have HYS := Lib.hid (List.contains_iff_mem.1 HB.out)
        go_wp2
        go_roundg (n - (i + 1))
        case measure => omega
        case rel =>
          refine ⟨i + 1, k, S, va, vc, hin, by omega, Nat.le_refl _, rfl, by simp, Lib.hid ⟨HSS.out.1, HSS.out.2.1, fun x => ?_⟩, Lib.hid (HH.out.step (by (repeat first | exact Fr.refl _ _ | assumption | apply Fr.n | apply Fr.d | apply Fr.a | refine Fr.s ?_ (.inr (by simp; try omega)) _)))⟩
          rw [HTK.out, List.mem_append, ← HSS.out.2.2, List.mem_singleton]
          exact ⟨.inl, fun h => h.elim id fun h => h ▸ HYS.out⟩
      | false =>
        have HNB := Lib.hid (show y ∉ S from fun e => by have := HB.out; rw [List.contains_iff_mem.2 e] at this; cases this)
        have HN1 := Lib.hid (HH.out.nilRow 3 1)
        clear HB
        go_wp2
        go_loopg [5, 6] k (fun gg z5 z6 wr => ∃ (j : Nat) (na : Option Addr) (nc : Nat), j ≤ k ∧ k - j ≤ gg ∧ z5 = .slice na j nc ∧ z6 = .int .i64 (j : Int) ∧ Hid (Has W wr (Hp.row 3 1 (.slice na j nc) j (iv (S.take j)) :: Hp.row 3 1 (.slice va k vc) k (iv S) :: Ps)))
        case atStart => exact ⟨0, none, 0, Nat.zero_le _, by omega, rfl, rfl, Lib.hid (by rw [List.take_zero]; exact HN1.out.step (by (repeat first | exact Fr.refl _ _ | assumption | apply Fr.n | apply Fr.d | apply Fr.a | refine Fr.s ?_ (.inr (by simp; try omega)) _)))⟩
        case round =>
          obtain ⟨j, na, nc, hj, hgj, rfl, rfl, HK⟩ := hrel
          clear HN1 HH hgl hc
          have hI := HS.out _ _ HK.out (fun P hP => List.mem_cons_of_mem _ (List.mem_cons_of_mem _ hP))
          obtain ⟨yg', off', hye, hgl, hc⟩ := IntsAt.get hI HY.out
          obtain ⟨rfl, rfl⟩ : yg = yg' ∧ off = off' := by cases hye; exact ⟨rfl, rfl⟩
          clear hI hye
          by_cases hjk : j < k
          · obtain ⟨z, hz⟩ : ∃ z, S[j]? = some z := ⟨_, List.getElem?_eq_getElem (by rw [HSS.out.1]; exact hjk)⟩
            have hzV := HV.out z (List.mem_of_mem_take ((HSS.out.2.2 z).1 (List.mem_of_getElem? hz)))
            have hr2 := (HK.out.bring 1).row
            obtain ⟨sg, rfl⟩ := owns_some hr2 (by omega)
            have s0 := owns_cell hr2 rfl (iv_get hz)
            have sl := owns_lt hr2 rfl
            have HZ := Lib.hid hz
            have HBF := Lib.hid (fun w => before_calls (w := w) hzV HYV.out)
            clear hr2 hz hzV
            go_wp2
            (refine wp_region_text (by kernel_rfl) (by kernel_rfl) ?_)
            go_wp2_with fail
            refine (HBF.out _).mono ?_
            rintro e w3 ⟨⟨B, rfl⟩, hw3⟩
            subst hw3
            clear HBF
            cases B with
            | true =>
              have hmaxl : (8000002 : Nat) ≤ maxLen := by decide
              have HLL := Lib.hid (show j + 1 ≤ maxLen ∧ (j + 1) * 8 ≤ 140737488355328 from by omega)
              clear hmaxl
              go_wp2
              refine Strict.intro rfl ?_
              go_wp2_with (at_builtin; refine append_has (W := W) (size := 1) (bytes := 8) (z := .int .i64 0) (e := 3) (n := j) (xs := iv (S.take j)) (news := [.int .i64 z]) rfl rfl Try.underlying25 (by kernel_rfl) rfl (by decide) rfl rfl (HK.out.step (by (repeat first | exact Fr.refl _ _ | assumption | apply Fr.n | apply Fr.d | apply Fr.a | refine Fr.s ?_ (.inr (by simp; try omega)) _))) (by (repeat first | rw [if_pos (by omega)] | rw [if_neg (by omega)] | rw [hp_drew] | rw [hp_drewN] | rw [hp_alloc_size] | rw [hp_setCell_size] | rw [hp_alloc] | rw [hp_setCell] | rw [oMS] | rw [upd_cells] | rw [lSZ] | rw [lSS] | rfl)) rfl (by simp [Value.oneCell']) HLL.out.1 HLL.out.2 ?_)
              intro g5 cap5 w5 h5 hf5 hg5
              rw [show iv (S.take j) ++ [.int .i64 z] = iv (S.take (j + 1)) from by rw [List.take_add_one, HZ.out]; simp [iv]] at h5
              have H5 := Lib.hid h5
              clear h5 hf5 hg5 HK hgl hc s0 sl
              go_wp2
              go_roundg (k - (j + 1))
              case measure => omega
              case rel => exact ⟨j + 1, some ⟨g5, 0, none⟩, cap5, hjk, Nat.le_refl _, rfl, by simp, Lib.hid (H5.out.step (by (repeat first | exact Fr.refl _ _ | assumption | apply Fr.n | apply Fr.d | apply Fr.a | refine Fr.s ?_ (.inr (by simp; try omega)) _)))⟩
            | false =>
              clear s0 sl HZ
              go_wp2
              refine Strict.intro rfl ?_
              have hmaxl : (8000002 : Nat) ≤ maxLen := by decide
              have HLL := Lib.hid (show j + 1 ≤ maxLen ∧ (j + 1) * 8 ≤ 140737488355328 ∧ j + 1 + (k - j) ≤ maxLen ∧ (j + 1 + (k - j)) * 8 ≤ 140737488355328 from by omega)
              clear hmaxl
              go_wp2_with (at_builtin; refine append_has (W := W) (size := 1) (bytes := 8) (z := .int .i64 0) (e := 3) (n := j) (xs := iv (S.take j)) (news := [.int .i64 y]) rfl rfl Try.underlying25 (by kernel_rfl) rfl (by decide) rfl rfl (HK.out.step (by (repeat first | exact Fr.refl _ _ | assumption | apply Fr.n | apply Fr.d | apply Fr.a | refine Fr.s ?_ (.inr (by simp; try omega)) _))) (by (repeat first | rw [if_pos (by omega)] | rw [if_neg (by omega)] | rw [hp_drew] | rw [hp_drewN] | rw [hp_alloc_size] | rw [hp_setCell_size] | rw [hp_alloc] | rw [hp_setCell] | rw [oMS] | rw [upd_cells] | rw [lSZ] | rw [lSS] | rfl)) rfl (by simp [Value.oneCell']) HLL.out.1 HLL.out.2.1 ?_)
              intro g5 cap5 w5 h5 hf5 hg5
              rw [show iv (S.take j) ++ [.int .i64 y] = iv (S.take j ++ [y]) from by simp [iv]] at h5
              have hrs := (h5.bring 1).rowReads
              have hvf := owns_form2 (h5.bring 1).row
              obtain ⟨va2, vc2, hve, hvz, hvg⟩ := hvf
              obtain ⟨rfl, _, rfl⟩ := Value.slice.inj hve
              have hvc := owns_cap (h5.bring 1).row
              have H5 := Lib.hid h5
              have HRS := Lib.hid hrs
              have HVZ := Lib.hid hvz
              have HPI := Lib.hid (put_in (j := j) HSS.out.2.1 HNB.out)
              clear h5 hf5 hg5 HK hrs hve
              clear hvg
              go_wp2_with (at_builtin; refine append_readsH (W := W) (size := 1) (bytes := 8) (z := .int .i64 0) (e := 3) (n := j + 1) (m := k - j) (xs := iv (S.take j ++ [y])) (news := (iv S).drop j) rfl rfl Try.underlying25 (by kernel_rfl) rfl (by decide) rfl rfl (H5.out.step (by (repeat first | exact Fr.refl _ _ | assumption | apply Fr.n | apply Fr.d | apply Fr.a | refine Fr.s ?_ (.inr (by simp; try omega)) _))) ?hr (fun e => by cases e) (fun u hu => iv_one _ u (List.mem_of_mem_drop hu)) HLL.out.2.2.1 HLL.out.2.2.2 ?_)
              case hr =>
                have := reads_drop (k := j) (m := k - j) (c' := vc - j) HRS.out (by omega)
                rw [Nat.zero_add] at this
                exact this.fr (by (repeat first | exact Fr.refl _ _ | assumption | apply Fr.n | apply Fr.d | apply Fr.a | refine Fr.s ?_ (.inr (by simp; try omega)) _))
              intro v7 w7 h7
              have hlk : j + 1 + (k - j) = k + 1 := by omega
              (try rw [hlk] at h7)
              (try rw [hlk])
              rw [show iv (S.take j ++ [y]) ++ (iv S).drop j = iv (S.take j ++ (y :: S.drop j)) from by simp [iv]] at h7
              obtain ⟨va7, vc7, rfl, _, _⟩ := owns_form2 h7.row
              have H7 := Lib.hid (h7.ord 2 [0])
              clear h7 H5 hlk
              go_wp2
              go_roundg (n - (i + 1))
              case measure => omega
              case rel =>
                refine ⟨i + 1, k + 1, S.take j ++ (y :: S.drop j), va7, vc7, hin, by omega, Nat.le_refl _, rfl, by simp, Lib.hid ⟨?_, HPI.out.1, fun x => ?_⟩, Lib.hid (H7.out.step (by (repeat first | exact Fr.refl _ _ | assumption | apply Fr.n | apply Fr.d | apply Fr.a | refine Fr.s ?_ (.inr (by simp; try omega)) _)))⟩
                · have := HSS.out.1
                  rw [List.length_append, List.length_cons, List.length_take, List.length_drop]
                  omega
                · rw [HPI.out.2, HTK.out, List.mem_append, HSS.out.2.2, List.mem_singleton]
          · obtain rfl : j = k := by omega
            go_wp2
            (refine wp_region_text (by kernel_rfl) (by kernel_rfl) ?_)
            go_wp2
            refine Strict.intro rfl ?_
            have hmaxl : (8000002 : Nat) ≤ maxLen := by decide
            have HLL := Lib.hid (show j + 1 ≤ maxLen ∧ (j + 1) * 8 ≤ 140737488355328 ∧ j + 1 + (j - j) ≤ maxLen ∧ (j + 1 + (j - j)) * 8 ≤ 140737488355328 from by omega)
            clear hmaxl
            go_wp2_with (at_builtin; refine append_has (W := W) (size := 1) (bytes := 8) (z := .int .i64 0) (e := 3) (n := j) (xs := iv (S.take j)) (news := [.int .i64 y]) rfl rfl Try.underlying25 (by kernel_rfl) rfl (by decide) rfl rfl (HK.out.step (by (repeat first | exact Fr.refl _ _ | assumption | apply Fr.n | apply Fr.d | apply Fr.a | refine Fr.s ?_ (.inr (by simp; try omega)) _))) (by (repeat first | rw [if_pos (by omega)] | rw [if_neg (by omega)] | rw [hp_drew] | rw [hp_drewN] | rw [hp_alloc_size] | rw [hp_setCell_size] | rw [hp_alloc] | rw [hp_setCell] | rw [oMS] | rw [upd_cells] | rw [lSZ] | rw [lSS] | rfl)) rfl (by simp [Value.oneCell']) HLL.out.1 HLL.out.2.1 ?_)
            intro g5 cap5 w5 h5 hf5 hg5
            rw [show iv (S.take j) ++ [.int .i64 y] = iv (S.take j ++ [y]) from by simp [iv]] at h5
            have hrs := (h5.bring 1).rowReads
            have hvf := owns_form2 (h5.bring 1).row
            obtain ⟨va2, vc2, hve, hvz, hvg⟩ := hvf
            obtain ⟨rfl, _, rfl⟩ := Value.slice.inj hve
            have hvc := owns_cap (h5.bring 1).row
            have H5 := Lib.hid h5
            have HRS := Lib.hid hrs
            have HVZ := Lib.hid hvz
            have HPI := Lib.hid (put_in (j := j) HSS.out.2.1 HNB.out)
            clear h5 hf5 hg5 HK hrs hve
            cases va with
            | none =>
              obtain ⟨hk0, hc0⟩ := HVZ.out rfl
              subst hk0
              subst hc0
              have hS : S = [] := List.length_eq_zero_iff.1 HSS.out.1
              subst hS
              clear hvg
              go_wp2_with (at_builtin; refine append_readsH (W := W) (size := 1) (bytes := 8) (z := .int .i64 0) (e := 3) (n := 1) (m := 0) (xs := iv [y]) (news := []) rfl rfl Try.underlying25 (by kernel_rfl) rfl (by decide) rfl rfl (H5.out.step (by (repeat first | exact Fr.refl _ _ | assumption | apply Fr.n | apply Fr.d | apply Fr.a | refine Fr.s ?_ (.inr (by simp; try omega)) _))) (HRS.out.fr (by (repeat first | exact Fr.refl _ _ | assumption | apply Fr.n | apply Fr.d | apply Fr.a | refine Fr.s ?_ (.inr (by simp; try omega)) _))) (fun _ => rfl) (by simp) HLL.out.1 HLL.out.2.1 ?_)
              intro v7 w7 h7
              obtain ⟨va7, vc7, rfl, _, _⟩ := owns_form2 h7.row
              have H7 := Lib.hid (h7.ord 2 [0])
              clear h7 H5
              go_wp2
              go_roundg (n - (i + 1))
              case measure => omega
              case rel =>
                refine ⟨i + 1, 1, [y], va7, vc7, hin, by omega, Nat.le_refl _, rfl, by simp, Lib.hid ⟨rfl, by simp, fun x => ?_⟩, Lib.hid (H7.out.step (by (repeat first | exact Fr.refl _ _ | assumption | apply Fr.n | apply Fr.d | apply Fr.a | refine Fr.s ?_ (.inr (by simp; try omega)) _)))⟩
                rw [HTK.out, List.mem_append, ← HSS.out.2.2]
                simp
            | some ad =>
              obtain ⟨g, rfl⟩ := hvg ad rfl
              clear hvg
              by_cases hvj : vc = j
              · subst hvj
                go_wp2_with (at_builtin; refine append_readsH (W := W) (size := 1) (bytes := 8) (z := .int .i64 0) (e := 3) (n := vc + 1) (m := 0) (xs := iv (S.take vc ++ [y])) (news := []) rfl rfl Try.underlying25 (by kernel_rfl) rfl (by decide) rfl rfl (H5.out.step (by (repeat first | exact Fr.refl _ _ | assumption | apply Fr.n | apply Fr.d | apply Fr.a | refine Fr.s ?_ (.inr (by simp; try omega)) _))) ⟨rfl, _, _, rfl, fun h => absurd h (by omega)⟩ (fun e => by cases e) (by simp) HLL.out.1 HLL.out.2.1 ?_)
                intro v7 w7 h7
                (try rw [List.append_nil] at h7)
                rw [show iv (S.take vc ++ [y]) = iv (S.take vc ++ (y :: S.drop vc)) from by rw [List.drop_eq_nil_of_le (by rw [HSS.out.1]; exact Nat.le_refl _)]] at h7
                (try rw [Nat.add_zero] at h7)
                (try rw [Nat.add_zero])
                obtain ⟨va7, vc7, rfl, _, _⟩ := owns_form2 h7.row
                have H7 := Lib.hid (h7.ord 2 [0])
                clear h7 H5
                go_wp2
                go_roundg (n - (i + 1))
                case measure => omega
                case rel =>
                  refine ⟨i + 1, vc + 1, S.take vc ++ (y :: S.drop vc), va7, vc7, hin, by omega, Nat.le_refl _, rfl, by simp, Lib.hid ⟨?_, HPI.out.1, fun x => ?_⟩, Lib.hid (H7.out.step (by (repeat first | exact Fr.refl _ _ | assumption | apply Fr.n | apply Fr.d | apply Fr.a | refine Fr.s ?_ (.inr (by simp; try omega)) _)))⟩
                  · have := HSS.out.1
                    rw [List.length_append, List.length_cons, List.length_take, List.length_drop]
                    omega
                  · rw [HPI.out.2, HTK.out, List.mem_append, HSS.out.2.2, List.mem_singleton]
              ·
                go_wp2_with (at_builtin; refine append_readsH (W := W) (size := 1) (bytes := 8) (z := .int .i64 0) (e := 3) (n := j + 1) (m := 0) (xs := iv (S.take j ++ [y])) (news := []) rfl rfl Try.underlying25 (by kernel_rfl) rfl (by decide) rfl rfl (H5.out.step (by (repeat first | exact Fr.refl _ _ | assumption | apply Fr.n | apply Fr.d | apply Fr.a | refine Fr.s ?_ (.inr (by simp; try omega)) _))) ⟨rfl, _, _, rfl, fun h => absurd h (by omega)⟩ (fun e => by cases e) (by simp) HLL.out.1 HLL.out.2.1 ?_)
                intro v7 w7 h7
                (try rw [List.append_nil] at h7)
                rw [show iv (S.take j ++ [y]) = iv (S.take j ++ (y :: S.drop j)) from by rw [List.drop_eq_nil_of_le (by rw [HSS.out.1]; exact Nat.le_refl _)]] at h7
                (try rw [Nat.add_zero] at h7)
                (try rw [Nat.add_zero])
                obtain ⟨va7, vc7, rfl, _, _⟩ := owns_form2 h7.row
                have H7 := Lib.hid (h7.ord 2 [0])
                clear h7 H5
                go_wp2
                go_roundg (n - (i + 1))
                case measure => omega
                case rel =>
                  refine ⟨i + 1, j + 1, S.take j ++ (y :: S.drop j), va7, vc7, hin, by omega, Nat.le_refl _, rfl, by simp, Lib.hid ⟨?_, HPI.out.1, fun x => ?_⟩, Lib.hid (H7.out.step (by (repeat first | exact Fr.refl _ _ | assumption | apply Fr.n | apply Fr.d | apply Fr.a | refine Fr.s ?_ (.inr (by simp; try omega)) _)))⟩
                  · have := HSS.out.1
                    rw [List.length_append, List.length_cons, List.length_take, List.length_drop]
                    omega
                  · rw [HPI.out.2, HTK.out, List.mem_append, HSS.out.2.2, List.mem_singleton]
    · obtain rfl : n = i := by omega
      have h2 := HSS.out
      rw [List.take_of_length_le (by rw [HN.out]; exact Nat.le_refl _)] at h2
      have H2 := Lib.hid h2
      clear h2 HSS
      go_wp2
      go_ret
      refine ⟨va, vc, S, by rw [H2.out.1]; rfl, H2.out.2.1, H2.out.2.2, ?_⟩
      rw [H2.out.1]
      exact HH.out.step (by (repeat first | exact Fr.refl _ _ | assumption | apply Fr.n | apply Fr.d | apply Fr.a | refine Fr.s ?_ (.inr (by simp; try omega)) _))
end Go.Proofs.Ytbpaadpocihahaa
end

section
/- The reference R40: Units. -/
namespace Go.Proofs.Ytbpaadpocihahaa
open Go Go.RowKit Go.Proofs.Rg Go.Proofs.Mp Go.Proofs.Hp Go.Proofs.Sv Go.Proofs.Rp
set_option linter.unusedVariables false
set_option linter.unusedSimpArgs false
def unitsB (V : Int) (cs : List (List Int)) (A : List Int) : Bool := rightF V cs && A.all (okLit V)
def UnitsPost (W : World) (Ps : List Res) (V : Int) (cs : List (List Int)) (A : List Int) (e : Ending) (w' : World) : Prop :=
  ∃ (X : List Res) (va : Option Addr) (k vc : Nat), (∀ P ∈ Ps, P ∈ X) ∧ e = .returned (.tuple #[.slice va k vc, .bool (unitsB V cs A && !cnfB cs A), .int .i64 (if unitsB V cs A then 0 else 2)]) ∧ Has W w' X
theorem UnitsPost.bad {W w : World} {Ps : List Res} {V : Int} {cs : List (List Int)} {A : List Int} {e : Ending} (hu : unitsB V cs A = false) (he : e = .returned (.tuple #[.slice none 0 0, .bool false, .int .i64 2])) (h : Has W w Ps) : UnitsPost W Ps V cs A e w :=
  ⟨Ps, none, 0, 0, fun P hP => hP, by rw [hu]; exact he, h⟩
theorem UnitsPost.con {W w : World} {Ps X : List Res} {V : Int} {cs : List (List Int)} {A : List Int} {e : Ending} (hu : unitsB V cs A = true) (hc : cnfB cs A = true) (hx : ∀ P ∈ Ps, P ∈ X) (he : e = .returned (.tuple #[.slice none 0 0, .bool false, .int .i64 0])) (h : Has W w X) : UnitsPost W Ps V cs A e w :=
  ⟨X, none, 0, 0, hx, by rw [hu, hc]; exact he, h⟩
theorem mem_restD {l all : List Int} {x : Int} : x ∈ restD l all ↔ x ∈ l ∧ -x ∉ all := by
  unfold restD
  rw [List.mem_filter, Bool.not_eq_true']
  constructor
  · rintro ⟨h1, h2⟩
    exact ⟨h1, fun e => by rw [List.contains_iff_mem.2 e] at h2; cases h2⟩
  · rintro ⟨h1, h2⟩
    refine ⟨h1, ?_⟩
    cases hb : all.contains (-x) with
    | false => rfl
    | true => exact absurd (List.contains_iff_mem.1 hb) h2
theorem rest_zero {C all S : List Int} (h1 : ∀ y ∈ C, y ∉ all) (hS : ∀ x, x ∈ S ↔ x ∈ restD C all) (h0 : S = []) : OpenR C all 0 0 := by
  refine .inr ⟨by omega, h1, .inl ⟨rfl, rfl, fun y hy => Classical.byContradiction fun hn => ?_⟩⟩
  have := (hS y).2 (mem_restD.2 ⟨hy, hn⟩)
  rw [h0] at this
  cases this
theorem rest_one {C all S : List Int} {x : Int} (h1 : ∀ y ∈ C, y ∉ all) (hS : ∀ x, x ∈ S ↔ x ∈ restD C all) (h0 : S = [x]) : OpenR C all 1 x := by
  have hx := mem_restD.1 ((hS x).1 (by rw [h0]; exact List.mem_singleton.2 rfl))
  refine .inr ⟨by omega, h1, .inr (.inl ⟨rfl, hx.1, hx.2, fun y hy hne => Classical.byContradiction fun hn => ?_⟩)⟩
  have := (hS y).2 (mem_restD.2 ⟨hy, hn⟩)
  rw [h0, List.mem_singleton] at this
  exact hne this
theorem rest_two {C all S : List Int} (hn : S.Nodup) (hS : ∀ x, x ∈ S ↔ x ∈ restD C all) (h2 : 2 ≤ S.length) : Settled C all := by
  match S, h2 with
  | x :: y :: l, _ =>
    have hx := mem_restD.1 ((hS x).1 (by simp))
    have hy := mem_restD.1 ((hS y).1 (by simp))
    exact .inr ⟨x, hx.1, y, hy.1, fun e => by rw [List.nodup_cons] at hn; exact hn.1 (by simp [e]), hx.2, hy.2⟩
theorem src_nil {W : World} {Ps : List Res} : IntsSrc W Ps none 0 [] := fun w Qs _ _ => ⟨rfl, none, 0, rfl, fun h => absurd h (by simp)⟩
theorem src_empty {W : World} {Ps : List Res} {a : Option Addr} {c : Nat} : IntsSrc W Ps a c [] := fun w Qs _ _ => ⟨rfl, a, c, rfl, fun h => absurd h (by simp)⟩
theorem src_drop {W : World} {Ps : List Res} {g k c m : Nat} {l : List Int} (hl : l.length = k) (hm : m ≤ k) (hr : Hp.row 3 1 (.slice (some ⟨g, 0, none⟩) k c) k (iv l) ∈ Ps) : IntsSrc W Ps (some ⟨g, m, none⟩) (c - m) (l.drop m) := fun w Qs hw hP => by
  obtain ⟨Q, h1⟩ := has_mem hw (hP _ hr)
  have := reads_drop (k := m) (m := k - m) (c' := c - m) h1.rowReads (by omega)
  rw [Nat.zero_add] at this
  have hd : (l.drop m).length = k - m := by rw [List.length_drop, hl]
  unfold IntsAt
  rw [hd, show iv (l.drop m) = (iv l).drop m from by simp [iv]]
  exact this
set_option maxHeartbeats 16000000 in
set_option maxRecDepth 100000 in
theorem Units_calls {W w : World} {Ps : List Res} (h : Has W w Ps) {V : Int} {a : Option Addr} {c : Nat} {vs : List Value} {cs : List (List Int)} (hF : FormHs W Ps a c vs cs)
    {ca : Option Addr} {cc : Nat} {A : List Int} (hC : IntsSrc W Ps ca cc A) (hca : ca = none → cc = 0) (hcc : A.length ≤ cc) (hrl : A.length ≤ 1000000) (hfl : cs.flatten.length ≤ 7000000) (hs : ∀ q ∈ cs, q.length ≤ 1000000) :
    Calls Try.prog 28 #[.agg #[.int .i64 V, .slice a cs.length c], .slice ca A.length cc] w (UnitsPost W Ps V cs A) := by
  have H0 := Lib.hid (h.newBlk (.cells #[.int .i64 V, .slice a cs.length c] 24 (0, 0)))
  have HC := Lib.hid hC
  have HF := Lib.hid hF
  have HAS := Lib.hid (hF.src _ _ h fun P hP => hP)
  have HS := Lib.hid hs
  have HFL := Lib.hid hfl
  have HCA := Lib.hid (And.intro hca hcc)
  have HRC := Lib.hid (fun w' (hf : Fr [] w w') => R40Right_calls (V := V) (HAS.out.fr hf))
  obtain ⟨n, hn⟩ : ∃ n, cs.length = n := ⟨_, rfl⟩
  obtain ⟨m, hm⟩ : ∃ n, A.length = n := ⟨_, rfl⟩
  have HNN := Lib.hid (And.intro hn hm)
  rw [hn] at H0 HRC ⊢
  rw [hm] at hrl hcc ⊢
  obtain ⟨b1, hb1⟩ : ∃ b, rightF V cs = b := ⟨_, rfl⟩
  rw [hb1] at HRC
  have HB1 := Lib.hid hb1
  clear h hC hF hs hfl hn hm hca hb1
  go_enter Try.func28, Try.ntmps28
  go_wp2_with fail
  refine (HRC.out _ (by (repeat first | exact Fr.refl _ _ | assumption | apply Fr.n | apply Fr.d | apply Fr.a | refine Fr.s ?_ (.inr (by simp; try omega)) _))).mono ?_
  rintro e w1 ⟨rfl, hf1⟩
  have h1 := H0.out.step (Fr.trans0 (by (repeat first | exact Fr.refl _ _ | assumption | apply Fr.n | apply Fr.d | apply Fr.a | refine Fr.s ?_ (.inr (by simp; try omega)) _)) hf1)
  obtain ⟨fb, hfb⟩ : ∃ b, w.heap.size = b := ⟨_, rfl⟩
  rw [hfb] at h1 ⊢
  have hb := h1.blk
  have f0 : _ = some _ := heap_eq_cell hb 0
  have f1 : _ = some _ := heap_eq_cell hb 1
  have fl := lt_of_block hb
  have H1 := Lib.hid h1
  clear h1 hb hfb H0 HRC hf1
  cases b1 with
  | false =>
    have HU := Lib.hid (show unitsB V cs A = false from by unfold unitsB; rw [HB1.out]; rfl)
    go_wp2
    (try simp only [Exit.inBlock, Exit.then])
    go_ret3
    exact UnitsPost.bad HU.out rfl (H1.out.drop.step (by (repeat first | exact Fr.refl _ _ | assumption | apply Fr.n | apply Fr.d | apply Fr.a | refine Fr.s ?_ (.inr (by simp; try omega)) _)))
  | true =>
    obtain ⟨V, rfl, hV⟩ := rightF_nat HB1.out
    obtain ⟨hcl, _, hlit⟩ := rightF_len HB1.out
    rw [HNN.out.1] at hcl
    have HL := Lib.hid hlit
    obtain ⟨b2, hb2⟩ : ∃ b, A.all (okLit V) = b := ⟨_, rfl⟩
    have HLT := Lib.hid (fun w' (hf : Fr [] w1 w') => literals_calls (V := (V : Int)) (fa := a) (fn := n) (fc := c) (by omega) ((HC.out _ _ H1.out fun P hP => List.mem_cons_of_mem _ hP).fr hf) (by rw [HNN.out.2]; omega))
    rw [HNN.out.2, hb2] at HLT
    have HB2 := Lib.hid hb2
    clear hlit hb2
    go_wp2_with fail
    refine (HLT.out _ (by (repeat first | exact Fr.refl _ _ | assumption | apply Fr.n | apply Fr.d | apply Fr.a | refine Fr.s ?_ (.inr (by simp; try omega)) _))).mono ?_
    rintro e w2 ⟨rfl, hf2⟩
    have H2 := Lib.hid (H1.out.step hf2)
    clear hf2 HLT H1 f0 f1 fl
    have hb := H2.out.blk
    have f0 : _ = some _ := heap_eq_cell hb 0
    have f1 : _ = some _ := heap_eq_cell hb 1
    have fl := lt_of_block hb
    clear hb
    have HU := Lib.hid (show unitsB V cs A = b2 from by unfold unitsB; rw [HB1.out, HB2.out]; rfl)
    cases b2 with
    | false =>
      go_wp2
      (try simp only [Exit.inBlock, Exit.then])
      go_ret3
      exact UnitsPost.bad HU.out rfl (H2.out.drop.step (by (repeat first | exact Fr.refl _ _ | assumption | apply Fr.n | apply Fr.d | apply Fr.a | refine Fr.s ?_ (.inr (by simp; try omega)) _)))
    | true =>
      have hAV : ∀ x ∈ A, x ≠ 0 ∧ x.natAbs ≤ 65536 := fun x hx => by
        have := List.all_eq_true.1 HB2.out x hx
        unfold okLit at this
        simp at this
        omega
      have HAV := Lib.hid hAV
      have hmaxl : (8000001 : Nat) ≤ maxLen := by decide
      have HLL := Lib.hid (show 0 + m ≤ maxLen ∧ (0 + m) * 8 ≤ 140737488355328 from by omega)
      have HN2 := Lib.hid (H2.out.nilRow 3 1)
      have hrd := HC.out _ _ H2.out fun P hP => List.mem_cons_of_mem _ hP
      unfold IntsAt at hrd
      rw [HNN.out.2] at hrd
      have HRD := Lib.hid hrd
      clear hAV hmaxl hrd
      go_wp2_with (at_builtin; refine append_readsH (W := W) (size := 1) (bytes := 8) (z := .int .i64 0) (e := 3) (n := 0) (m := m) (xs := []) (news := iv A) rfl rfl Try.underlying25 (by kernel_rfl) rfl (by decide) rfl rfl (HN2.out.step (by (repeat first | exact Fr.refl _ _ | assumption | apply Fr.n | apply Fr.d | apply Fr.a | refine Fr.s ?_ (.inr (by simp; try omega)) _))) (HRD.out.fr (by (repeat first | exact Fr.refl _ _ | assumption | apply Fr.n | apply Fr.d | apply Fr.a | refine Fr.s ?_ (.inr (by simp; try omega)) _))) HCA.out.1 (iv_one A) HLL.out.1 HLL.out.2 ?_)
      intro v3 w3 h3
      (try rw [Nat.zero_add] at h3)
      (try rw [List.nil_append] at h3)
      obtain ⟨va, vc, rfl, _, _⟩ := owns_form2 h3.row
      have H3 := Lib.hid h3
      clear h3 HN2 H2 HRD f0 f1 fl
      have HM0 := Lib.hid (show 2 * leftN cs A + 1 ≤ 2 * cs.flatten.length + 1 from by have : leftN cs A ≤ cs.flatten.length := List.length_filter_le _ _; omega)
      go_wp2
      go_loopg [7, 8] (2 * cs.flatten.length + 1) (fun gg z7 z8 wr => ∃ (all : List Int) (k : Nat) (va : Option Addr) (vc : Nat) (b : Bool), z7 = .slice va k vc ∧ z8 = .bool b ∧ 2 * leftN cs all + b.toNat ≤ gg ∧ k ≤ 8000000 ∧ m ≤ k ∧ Hid (all.length = k ∧ FolI cs A all ∧ (b = false → ∀ C ∈ cs, Settled C all)) ∧ Hid (Has W wr (Hp.row 3 1 (.slice va k vc) k (iv all) :: Hp.blk fb (.cells #[.int .i64 (V : Int), .slice a n c] 24 (0, 0)) :: Ps)))
      case atStart => exact ⟨A, m, va, vc, true, rfl, rfl, HM0.out, by omega, Nat.le_refl _, Lib.hid ⟨HNN.out.2, FolI.start HAV.out, fun e => by cases e⟩, Lib.hid (H3.out.step (by (repeat first | exact Fr.refl _ _ | assumption | apply Fr.n | apply Fr.d | apply Fr.a | refine Fr.s ?_ (.inr (by simp; try omega)) _)))⟩
      case round =>
        obtain ⟨all, k, va, vc, b, rfl, rfl, hgg, hk8, hmk, HI, HH⟩ := hrel
        clear H3 HM0
        cases b with
        | false =>
          have hfin := fol_closed HI.out.2.1.sub HI.out.2.1.der (HI.out.2.2 rfl)
          have hcon : contraB all = cnfB cs A := by
            rw [Bool.eq_iff_iff, hfin, cnfB_iff]
          have hia : IntsAt wr (.slice va all.length vc) all := by
            have := HH.out.rowReads
            rw [← HI.out.1] at this
            exact this
          have HCO := Lib.hid (opposed_calls hia (by rw [HI.out.1]; omega) (fun x hx => (HI.out.2.1.lit x hx).2))
          rw [HI.out.1, hcon] at HCO
          obtain ⟨q, hq⟩ : ∃ q, cnfB cs A = q := ⟨_, rfl⟩
          rw [hq] at HCO
          have HQ := Lib.hid hq
          clear hfin hcon hia hq
          go_wp2_with fail
          refine HCO.out.mono ?_
          rintro e w4 ⟨rfl, hw4⟩
          subst hw4
          clear HCO
          cases q with
          | true =>
            go_wp2
            (try simp only [Exit.inBlock, Exit.then])
            go_ret3
            exact UnitsPost.con HU.out HQ.out (fun P hP => hP) rfl (HH.out.drop.drop.step (by (repeat first | exact Fr.refl _ _ | assumption | apply Fr.n | apply Fr.d | apply Fr.a | refine Fr.s ?_ (.inr (by simp; try omega)) _)))
          | false =>
            have hdl : (all.drop m).length = k - m := by rw [List.length_drop, HI.out.1]
            have hdV : ∀ x ∈ all.drop m, x.natAbs ≤ 65536 := fun x hx => (HI.out.2.1.lit x (List.mem_of_mem_drop hx)).2
            have hvf := owns_form2 HH.out.row
            obtain ⟨va2, vc2, hve, hvz, hvg⟩ := hvf
            obtain ⟨rfl, _, rfl⟩ := Value.slice.inj hve
            have hvc := owns_cap HH.out.row
            have HDL := Lib.hid (And.intro hdl hdV)
            clear hdl hdV hve
            cases va with
            | none =>
              obtain ⟨hk0, hc0⟩ := hvz rfl
              subst hk0
              subst hc0
              obtain rfl : m = 0 := by omega
              clear hvz hvg
              have HSO := Lib.hid (fun w' (hf : Fr [] w4 w') => sorted_calls (HH.out.step hf) (src_nil (Ps := _)) (by simp) (by simp))
              go_wp2_with fail
              refine (HSO.out _ (by (repeat first | exact Fr.refl _ _ | assumption | apply Fr.n | apply Fr.d | apply Fr.a | refine Fr.s ?_ (.inr (by simp; try omega)) _))).mono ?_
              rintro e w5 ⟨sa, sc, S, rfl, _, _, h5⟩
              have H5 := Lib.hid h5
              clear h5 HSO
              go_wp2
              (try simp only [Exit.inBlock, Exit.then])
              go_ret3
              exact ⟨_, sa, S.length, sc, fun P hP => by simp [hP], by rw [HU.out, HQ.out]; rfl, H5.out.step (by (repeat first | exact Fr.refl _ _ | assumption | apply Fr.n | apply Fr.d | apply Fr.a | refine Fr.s ?_ (.inr (by simp; try omega)) _))⟩
            | some ad =>
              obtain ⟨g, rfl⟩ := hvg ad rfl
              clear hvz hvg
              by_cases hvm : vc = m
              · subst hvm
                obtain rfl : k = vc := by omega
                have HSO := Lib.hid (fun w' (hf : Fr [] w4 w') => sorted_calls (HH.out.step hf) (src_empty (Ps := _) (a := some ⟨g, 0, none⟩) (c := 0)) (by simp) (by simp))
                go_wp2_with fail
                refine (HSO.out _ (by (repeat first | exact Fr.refl _ _ | assumption | apply Fr.n | apply Fr.d | apply Fr.a | refine Fr.s ?_ (.inr (by simp; try omega)) _))).mono ?_
                rintro e w5 ⟨sa, sc, S, rfl, _, _, h5⟩
                have H5 := Lib.hid h5
                clear h5 HSO
                go_wp2
                (try simp only [Exit.inBlock, Exit.then])
                go_ret3
                exact ⟨_, sa, S.length, sc, fun P hP => by simp [hP], by rw [HU.out, HQ.out]; rfl, H5.out.step (by (repeat first | exact Fr.refl _ _ | assumption | apply Fr.n | apply Fr.d | apply Fr.a | refine Fr.s ?_ (.inr (by simp; try omega)) _))⟩
              · have hSO := fun w' (hf : Fr [] w4 w') => sorted_calls (HH.out.step hf) (src_drop HI.out.1 hmk (List.mem_cons_self ..)) (by rw [HDL.out.1]; omega) HDL.out.2
                rw [HDL.out.1] at hSO
                have HSO := Lib.hid hSO
                clear hSO
                go_wp2_with fail
                refine (HSO.out _ (by (repeat first | exact Fr.refl _ _ | assumption | apply Fr.n | apply Fr.d | apply Fr.a | refine Fr.s ?_ (.inr (by simp; try omega)) _))).mono ?_
                rintro e w5 ⟨sa, sc, S, rfl, _, _, h5⟩
                have H5 := Lib.hid h5
                clear h5 HSO
                go_wp2
                (try simp only [Exit.inBlock, Exit.then])
                go_ret3
                exact ⟨_, sa, S.length, sc, fun P hP => by simp [hP], by rw [HU.out, HQ.out]; rfl, H5.out.step (by (repeat first | exact Fr.refl _ _ | assumption | apply Fr.n | apply Fr.d | apply Fr.a | refine Fr.s ?_ (.inr (by simp; try omega)) _))⟩
        | true =>
          go_wp2
          go_loopg [7, 8, 9] n (fun g2 z7 z8 z9 wr => ∃ (i : Nat) (all2 : List Int) (k2 : Nat) (va2 : Option Addr) (vc2 : Nat) (b2 : Bool), i ≤ n ∧ n - i ≤ g2 ∧ z7 = .slice va2 k2 vc2 ∧ z8 = .bool b2 ∧ z9 = .int .i64 (i : Int) ∧ 2 * leftN cs all2 + b2.toNat < 2 * leftN cs all + 1 ∧ k2 ≤ 8000000 ∧ m ≤ k2 ∧ Hid (all2.length = k2 ∧ FolI cs A all2 ∧ (b2 = false → ∀ (j : Nat) C, j < i → cs[j]? = some C → Settled C all2)) ∧ Hid (Has W wr (Hp.row 3 1 (.slice va2 k2 vc2) k2 (iv all2) :: Hp.blk fb (.cells #[.int .i64 (V : Int), .slice a n c] 24 (0, 0)) :: Ps)))
          case atStart => exact ⟨0, all, k, va, vc, false, Nat.zero_le _, by omega, rfl, rfl, rfl, by simp, hk8, hmk, Lib.hid ⟨HI.out.1, HI.out.2.1, fun _ j C hj => by omega⟩, Lib.hid (HH.out.step (by (repeat first | exact Fr.refl _ _ | assumption | apply Fr.n | apply Fr.d | apply Fr.a | refine Fr.s ?_ (.inr (by simp; try omega)) _)))⟩
          case round =>
            obtain ⟨i, all2, k2, va2, vc2, b2, hi, hg2, rfl, rfl, rfl, hms, hk2, hmk2, HJ, HK⟩ := hrel
            clear HH
            have hb := (HK.out.bring 1).blk
            have x1 : _ = some _ := heap_eq_cell hb 1
            have xl := lt_of_block hb
            clear hb
            by_cases hin : i < n
            · obtain ⟨C, hCi⟩ : ∃ C, cs[i]? = some C := ⟨_, List.getElem?_eq_getElem (by rw [HNN.out.1]; exact hin)⟩
              obtain ⟨ra, rc, g, off, rfl, hgl, hc, hsrc⟩ := HF.out.row HK.out (fun P hP => by simp [hP]) hCi
              have hCm := List.mem_of_getElem? hCi
              have hCV : ∀ x ∈ C, x.natAbs ≤ 65536 := fun x hx => by have := HL.out C hCm x hx; omega
              have hk9 := HK.out
              rw [← HJ.out.1] at hk9
              have hRE := fun w' (hf : Fr [] wr w') => rest_calls (hk9.step hf) (hsrc.more fun P hP => List.mem_cons_of_mem _ (List.mem_cons_of_mem _ hP)) (HS.out C hCm) hCV (row_src (List.mem_cons_self ..)) (by rw [HJ.out.1]; omega)
              rw [HJ.out.1] at hRE
              have HRE := Lib.hid hRE
              have HCI := Lib.hid hCi
              have HCV := Lib.hid hCV
              clear hCi hCm hk9 hRE hsrc hCV
              go_wp2_with fail
              refine (HRE.out _ (by (repeat first | exact Fr.refl _ _ | assumption | apply Fr.n | apply Fr.d | apply Fr.a | refine Fr.s ?_ (.inr (by simp; try omega)) _))).mono ?_
              rintro e w5 (⟨hex, rfl, h5⟩ | ⟨hno, da, dc, rfl, h5⟩)
              · have H5 := Lib.hid h5
                have HEX := Lib.hid hex
                have HSO := Lib.hid (fun w' (hf : Fr [] w5 w') => sorted_calls (h5.step hf) (src_nil (Ps := _)) (by simp) (by simp))
                clear h5 hex HRE HK x1 xl hgl hc
                go_wp2_with fail
                refine (HSO.out _ (by (repeat first | exact Fr.refl _ _ | assumption | apply Fr.n | apply Fr.d | apply Fr.a | refine Fr.s ?_ (.inr (by simp; try omega)) _))).mono ?_
                rintro e w6 ⟨sa, sc, S, rfl, _, _, h6⟩
                have H6 := Lib.hid h6.drop
                clear h6 HSO H5
                go_wp2
                go_roundg (n - (i + 1))
                case measure => omega
                case rel =>
                  refine ⟨i + 1, all2, k2, va2, vc2, b2, hin, Nat.le_refl _, rfl, rfl, by simp, hms, hk2, hmk2, Lib.hid ⟨HJ.out.1, HJ.out.2.1, fun e j D hj hD => ?_⟩, Lib.hid (H6.out.step (by (repeat first | exact Fr.refl _ _ | assumption | apply Fr.n | apply Fr.d | apply Fr.a | refine Fr.s ?_ (.inr (by simp; try omega)) _)))⟩
                  by_cases hji : j = i
                  · subst hji
                    have := HCI.out
                    rw [hD] at this
                    obtain rfl := Option.some.inj this
                    exact .inl HEX.out
                  · exact HJ.out.2.2 e j D (by omega) hD
              · have hDV : ∀ x ∈ restD C all2, x.natAbs ≤ 65536 := fun x hx => HCV.out x (mem_restD.1 hx).1
                have hDl : (restD C all2).length ≤ 8000000 := Nat.le_trans (List.length_filter_le _ _) (Nat.le_trans (HS.out C (List.mem_of_getElem? HCI.out)) (by omega))
                have HSO := Lib.hid (fun w' (hf : Fr [] w5 w') => sorted_calls (h5.step hf) (row_src (List.mem_cons_self ..)) hDl hDV)
                have HNO := Lib.hid hno
                clear h5 hno hDV hDl HRE HK x1 xl hgl hc
                go_wp2_with fail
                refine (HSO.out _ (by (repeat first | exact Fr.refl _ _ | assumption | apply Fr.n | apply Fr.d | apply Fr.a | refine Fr.s ?_ (.inr (by simp; try omega)) _))).mono ?_
                rintro e w6 ⟨sa, sc, S, rfl, hnd, hmem, h6⟩
                (try rw [HJ.out.1] at h6)
                have H6 := Lib.hid h6
                have HSM := Lib.hid (And.intro hnd hmem)
                clear h6 HSO hnd hmem
                match S, HSM, H6 with
                | [], HSM, H6 =>
                  have HOR := Lib.hid (rest_zero HNO.out HSM.out.2 rfl)
                  have HT := Lib.hid (show cnfB cs A = true from by
                    rw [cnfB_iff]
                    exact Cnf.of_bad (List.mem_of_getElem? HCI.out) fun y hy => HJ.out.2.1.der _ (HOR.out.zero y hy))
                  simp only [List.length_nil]
                  go_wp2
                  (try simp only [Exit.inBlock, Exit.then])
                  go_ret3
                  exact UnitsPost.con HU.out HT.out (fun P hP => by simp [hP]) rfl (H6.out.step (by (repeat first | exact Fr.refl _ _ | assumption | apply Fr.n | apply Fr.d | apply Fr.a | refine Fr.s ?_ (.inr (by simp; try omega)) _)))
                | [last], HSM, H6 =>
                  have HOR := Lib.hid (rest_one HNO.out HSM.out.2 rfl)
                  obtain ⟨hgr, hlt⟩ := HJ.out.2.1.grow (List.mem_of_getElem? HCI.out) HOR.out (fun x hx => by have := HL.out C (List.mem_of_getElem? HCI.out) x hx; omega)
                  have HGR := Lib.hid hgr
                  have hk3 : k2 + 1 ≤ 8000000 := by
                    have h1 := hgr.len
                    have h2 := HFL.out
                    have h3 := HNN.out.2
                    have h4 := HJ.out.1
                    rw [List.length_append, List.length_singleton] at h1
                    omega
                  have hmaxl : (8000001 : Nat) ≤ maxLen := by decide
                  have HLL := Lib.hid (show k2 + 1 ≤ maxLen ∧ (k2 + 1) * 8 ≤ 140737488355328 from by omega)
                  have hr2 := H6.out.row
                  obtain ⟨sg, rfl⟩ := owns_some hr2 (by simp)
                  have s0 := owns_cell hr2 rfl (iv_get (l := [last]) (i := 0) rfl)
                  have sl := owns_lt hr2 rfl
                  have HK2 := Lib.hid (H6.out.ord 4 [2, 3])
                  clear hgr hmaxl hr2 H6
                  simp only [List.length_singleton] at *
                  go_wp2_with (at_builtin; refine append_has (W := W) (size := 1) (bytes := 8) (z := .int .i64 0) (e := 3) (n := k2) (xs := iv all2) (news := [.int .i64 last]) rfl rfl Try.underlying25 (by kernel_rfl) rfl (by decide) rfl rfl (HK2.out.step (by (repeat first | exact Fr.refl _ _ | assumption | apply Fr.n | apply Fr.d | apply Fr.a | refine Fr.s ?_ (.inr (by simp; try omega)) _))) (by (repeat first | rw [if_pos (by omega)] | rw [if_neg (by omega)] | rw [hp_drew] | rw [hp_drewN] | rw [hp_alloc_size] | rw [hp_setCell_size] | rw [hp_alloc] | rw [hp_setCell] | rw [oMS] | rw [upd_cells] | rw [lSZ] | rw [lSS] | rfl)) rfl (by simp [Value.oneCell']) HLL.out.1 HLL.out.2 ?_)
                  intro g3 cap3 w7 h7 hf7 hg7
                  rw [show iv all2 ++ [Value.int .i64 last] = iv (all2 ++ [last]) from by simp [iv]] at h7
                  have H7 := Lib.hid h7
                  clear h7 hf7 hg7 HK2 s0 sl
                  go_wp2
                  go_roundg (n - (i + 1))
                  case measure => omega
                  case rel => exact ⟨i + 1, all2 ++ [last], k2 + 1, some ⟨g3, 0, none⟩, cap3, true, hin, Nat.le_refl _, rfl, rfl, by simp, by simp; omega, hk3, by omega, Lib.hid ⟨by rw [List.length_append, HJ.out.1]; rfl, HGR.out, fun e => by cases e⟩, Lib.hid (H7.out.step (by (repeat first | exact Fr.refl _ _ | assumption | apply Fr.n | apply Fr.d | apply Fr.a | refine Fr.s ?_ (.inr (by simp; try omega)) _)))⟩
                | x :: y :: l, HSM, H6 =>
                  have HST := Lib.hid (rest_two HSM.out.1 HSM.out.2 (by simp))
                  obtain ⟨t, ht⟩ : ∃ t, (x :: y :: l).length = t + 2 := ⟨l.length, rfl⟩
                  rw [ht]
                  have b0 : (((t + 2 : Nat) : Int) == 0) = false := by simp; omega
                  have b1 : (((t + 2 : Nat) : Int) == 1) = false := by simp; omega
                  have HK2 := Lib.hid (H6.out.ord 4 [2, 3])
                  clear H6 ht
                  go_wp2
                  go_roundg (n - (i + 1))
                  case measure => omega
                  case rel =>
                    refine ⟨i + 1, all2, k2, va2, vc2, b2, hin, Nat.le_refl _, rfl, rfl, by simp, hms, hk2, hmk2, Lib.hid ⟨HJ.out.1, HJ.out.2.1, fun e j D hj hD => ?_⟩, Lib.hid (HK2.out.step (by (repeat first | exact Fr.refl _ _ | assumption | apply Fr.n | apply Fr.d | apply Fr.a | refine Fr.s ?_ (.inr (by simp; try omega)) _)))⟩
                    by_cases hji : j = i
                    · subst hji
                      have := HCI.out
                      rw [hD] at this
                      obtain rfl := Option.some.inj this
                      exact HST.out
                    · exact HJ.out.2.2 e j D (by omega) hD
            · obtain rfl : i = n := by omega
              go_wp2
              go_roundg (2 * leftN cs all2 + b2.toNat)
              case measure =>
                have : true.toNat = 1 := rfl
                omega
              case rel =>
                refine ⟨all2, k2, va2, vc2, b2, rfl, rfl, Nat.le_refl _, hk2, hmk2, Lib.hid ⟨HJ.out.1, HJ.out.2.1, fun e C hC => ?_⟩, Lib.hid (HK.out.step (by (repeat first | exact Fr.refl _ _ | assumption | apply Fr.n | apply Fr.d | apply Fr.a | refine Fr.s ?_ (.inr (by simp; try omega)) _)))⟩
                obtain ⟨j, hj, rfl⟩ := List.getElem_of_mem hC
                exact HJ.out.2.2 e j _ (by rw [← HNN.out.1]; exact hj) (List.getElem?_eq_getElem hj)
end Go.Proofs.Ytbpaadpocihahaa
end
