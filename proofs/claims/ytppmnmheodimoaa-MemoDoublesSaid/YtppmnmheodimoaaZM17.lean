/- Own texts of this claim, part 18: no condition. -/
import Derived.Test.YtppmnmheodimoaaZM16
section
/- Neighbourhoods: Radius; the reference's Right and Radius. -/
namespace Go.Proofs.Ytppmnmheodimoaa
open Go Go.RowKit Go.Proofs.Rg Go.Proofs.Hp Go.Proofs.Ev
set_option linter.unusedVariables false
set_option linter.unusedSimpArgs false
theorem int_eq {k : IntKind} {a b : Int} (h : a = b) : Value.int k a = Value.int k b := by rw [h]
theorem hood_near {l : List (Int × Int)} (h : hoodR l = true) {k : Nat} {p : Int × Int} (hk : l[k]? = some p) : -2 ≤ p.1 ∧ p.1 ≤ 2 ∧ -2 ≤ p.2 ∧ p.2 ≤ 2 := by
  have h1 := hood_in h (List.mem_of_getElem? hk)
  have h2 := radius_le l
  omega
theorem foldl_take_succ {l : List (Int × Int)} {k : Nat} {p : Int × Int} (hk : l[k]? = some p) (r : Int) : (l.take (k + 1)).foldl radMax r = radMax ((l.take k).foldl radMax r) p := by
  rw [List.take_add_one, hk]
  simp
theorem fold_rad2 {l : List (Int × Int)} (h : hoodR l = true) (k : Nat) : 0 ≤ (l.take k).foldl radMax 0 ∧ (l.take k).foldl radMax 0 ≤ 2 := by
  refine ⟨(fold_rad _ 0).1, fold_rad_le _ 0 2 (by omega) fun p hp => ?_⟩
  have h1 := hood_in h (List.mem_of_mem_take hp)
  have h2 := radius_le l
  omega
theorem radius_true {l : List (Int × Int)} (h : hoodR l = true) : radius l = l.foldl radMax 0 := by unfold radius; rw [if_pos h]
theorem radius_false {l : List (Int × Int)} (h : hoodR l = false) : radius l = 0 := by unfold radius; rw [h]; rfl
theorem lt_fold (a b : Int) : (if a < b then b else a) = max a b := by omega
theorem run_max5 (r x y : Int) (w : World) : (Builtin.max_ #[3, 3, 3, 3, 3] 3 #[.int .i64 r, .int .i64 x, .int .i64 (-x), .int .i64 y, .int .i64 (-y)]).run Try.prog w = .ok (.int .i64 (radMax r (x, y))) w := by
  unfold Builtin.max_
  simp [Builtin.max2]
  simp only [lt_fold]
  rfl
theorem max_fold (a b : Int) [inst : Decidable (b > a)] : @ite Int (b > a) inst b a = max a b := by split <;> omega
theorem max_rad (r x y : Int) : max (max (max (max r x) (-x)) y) (-y) = radMax r (x, y) := rfl
theorem max_rad2 (r x y : Int) : max (max r (max x (-x))) (max y (-y)) = radMax r (x, y) := by unfold radMax; simp only; omega
set_option maxHeartbeats 4000000 in
theorem HRadius_calls {w : World} {l : List (Int × Int)} {a : Option Addr} {c : Nat} (hl : PtsAt w (.slice a l.length c) l) (hlen : l.length ≤ 1000000) :
    Calls Try.prog 38 #[.slice a l.length c] w fun e w' => e = .returned (.int .i64 (radius l)) ∧ Fr [] w w' := by
  have hr := fun w1 (hf : Fr [] w w1) => HRight_calls (hl.fr hf) hlen
  have HR := Lib.hid hr
  have Hl := Lib.hid hl
  clear hl hr
  cases hR : hoodR l with
  | false =>
    have H := Lib.hid (radius_false hR)
    rw [hR] at HR
    clear hR
    go_enter Try.func38, Try.ntmps38
    go_wp2_with fail
    refine (HR.out _ (by (repeat (first | exact Fr.refl _ _ | assumption | apply Fr.drewN | apply Fr.drew | apply Fr.alloc | refine Fr.setCell ?_ (Or.inr (by simp; try omega)) _)))).mono ?_
    rintro e w1 ⟨rfl, hf⟩
    have Hf := Lib.hid hf
    clear hf
    go_wp2
    go_ret
    exact ⟨ret_int' H.out.symm, Fr.trans0 (by (repeat (first | exact Fr.refl _ _ | assumption | apply Fr.drewN | apply Fr.drew | apply Fr.alloc | refine Fr.setCell ?_ (Or.inr (by simp; try omega)) _))) Hf.out⟩
  | true =>
    have H := Lib.hid (radius_true hR)
    have HF := Lib.hid (fold_rad2 hR)
    have HN := Lib.hid (fun k p (h : l[k]? = some p) => hood_near hR h)
    rw [hR] at HR
    clear hR
    go_enter Try.func38, Try.ntmps38
    go_wp2_with fail
    refine (HR.out _ (by (repeat (first | exact Fr.refl _ _ | assumption | apply Fr.drewN | apply Fr.drew | apply Fr.alloc | refine Fr.setCell ?_ (Or.inr (by simp; try omega)) _)))).mono ?_
    rintro e w1 ⟨rfl, hf⟩
    have Hf := Lib.hid (Fr.trans0 (by (repeat (first | exact Fr.refl _ _ | assumption | apply Fr.drewN | apply Fr.drew | apply Fr.alloc | refine Fr.setCell ?_ (Or.inr (by simp; try omega)) _)) : Fr [] w _) hf)
    clear hf
    go_wp2
    go_loopw [3, 10] (fun r x wr => ∃ k : Nat, x = .int .i64 k ∧ k ≤ l.length ∧ r = .int .i64 ((l.take k).foldl radMax 0) ∧ Fr [] w wr) (fun _ x _ => l.length - (intOf x).toNat)
    case atStart => exact ⟨0, rfl, by omega, rfl, Hf.out⟩
    case round =>
      clear Hf
      obtain ⟨k, rfl, hk, rfl, hf⟩ := hrel
      have Hf := Lib.hid hf
      clear hf
      by_cases hlt : k < l.length
      · obtain ⟨⟨x, y⟩, hp⟩ : ∃ p, l[k]? = some p := ⟨_, List.getElem?_eq_getElem hlt⟩
        obtain ⟨g, off, rfl, hg, e0, e1⟩ := (Hl.out.fr Hf.out).cell hp
        have HS := Lib.hid (foldl_take_succ hp 0)
        obtain ⟨n1, n2, n3, n4⟩ := HN.out k _ hp
        obtain ⟨f1, f2⟩ := HF.out k
        simp only at e0 e1 n1 n2 n3 n4
        generalize (l.take k).foldl radMax 0 = r at HS f1 f2 ⊢
        clear hp
        have hmx := fun w => run_max5 r x y w
        obtain ⟨r', hr'⟩ : ∃ r', radMax r (x, y) = r' := ⟨_, rfl⟩
        rw [hr'] at HS
        simp only [hr'] at hmx
        clear hr'
        go_wp2
        go_roundw
        case rel => exact ⟨k + 1, by go_num, by omega, by rw [HS.out], by have := Hf.out; (repeat (first | exact Fr.refl _ _ | assumption | apply Fr.drewN | apply Fr.drew | apply Fr.alloc | refine Fr.setCell ?_ (Or.inr (by simp; try omega)) _))⟩
        case measure => simp [intOf]; omega
      · obtain rfl : k = l.length := by omega
        have e : (l.take l.length).foldl radMax 0 = radius l := by rw [List.take_length]; exact H.out.symm
        rw [e]
        clear e
        go_wp2
        go_ret
        exact ⟨rfl, Hf.out⟩
theorem before_calls {p q : Int × Int} {w : World} : Calls Try.prog 86 #[.agg #[.int .i64 p.1, .int .i64 p.2], .agg #[.int .i64 q.1, .int .i64 q.2]] w fun e w' => e = .returned (.bool (before p q)) ∧ Fr [] w w' := by
  obtain ⟨px, py⟩ := p
  obtain ⟨qx, qy⟩ := q
  simp only
  obtain ⟨b, hb⟩ : ∃ b, before (px, py) (qx, qy) = b := ⟨_, rfl⟩
  rw [hb]
  unfold before at hb
  simp only at hb
  by_cases h1 : py < qy
  · obtain rfl : b = true := by rw [← hb]; simp [h1]
    clear hb
    go_enter Try.func86, Try.ntmps86
    go_wp2
    go_ret
    exact ⟨rfl, by (repeat (first | exact Fr.refl _ _ | assumption | apply Fr.drewN | apply Fr.drew | apply Fr.alloc | refine Fr.setCell ?_ (Or.inr (by simp; try omega)) _))⟩
  · by_cases h2 : py = qy
    · subst h2
      by_cases h3 : px < qx
      · obtain rfl : b = true := by rw [← hb]; simp [h3]
        clear hb
        go_enter Try.func86, Try.ntmps86
        go_wp2
        go_ret
        exact ⟨rfl, by (repeat (first | exact Fr.refl _ _ | assumption | apply Fr.drewN | apply Fr.drew | apply Fr.alloc | refine Fr.setCell ?_ (Or.inr (by simp; try omega)) _))⟩
      · obtain rfl : b = false := by rw [← hb]; simp [h3]
        clear hb
        go_enter Try.func86, Try.ntmps86
        go_wp2
        go_ret
        exact ⟨rfl, by (repeat (first | exact Fr.refl _ _ | assumption | apply Fr.drewN | apply Fr.drew | apply Fr.alloc | refine Fr.setCell ?_ (Or.inr (by simp; try omega)) _))⟩
    · obtain rfl : b = false := by rw [← hb]; simp [h1, h2]
      have he : (py == qy) = false := by simpa using h2
      clear hb
      go_enter Try.func86, Try.ntmps86
      go_wp2
      go_ret
      exact ⟨rfl, by (repeat (first | exact Fr.refl _ _ | assumption | apply Fr.drewN | apply Fr.drew | apply Fr.alloc | refine Fr.setCell ?_ (Or.inr (by simp; try omega)) _))⟩
set_option maxHeartbeats 4000000 in
theorem RHRight_calls {w : World} {l : List (Int × Int)} {a : Option Addr} {c : Nat} (hl : PtsAt w (.slice a l.length c) l) (hlen : l.length ≤ 1000000) :
    Calls Try.prog 63 #[.slice a l.length c] w fun e w' => e = .returned (.bool (hoodR l)) ∧ Fr [] w w' := by
  have Hl := Lib.hid hl
  clear hl
  by_cases h1 : 1 ≤ l.length ∧ l.length ≤ 25
  · obtain ⟨h1, h2⟩ := h1
    go_enter Try.func63, Try.ntmps63
    go_wp2
    go_loopw [3] (fun x wr => ∃ k : Nat, x = .int .i64 k ∧ k ≤ l.length ∧ (∀ j, j < k → hoodAt l j = true) ∧ Fr [] w wr) (fun x _ => l.length - (intOf x).toNat)
    case atStart => exact ⟨0, rfl, by omega, by omega, Fr.refl _ _⟩
    case round =>
      obtain ⟨k, rfl, hk, hn, hf⟩ := hrel
      have Hk := Lib.hid hn
      have Hf := Lib.hid hf
      clear hn hf
      by_cases hlt : k < l.length
      · obtain ⟨⟨x, y⟩, hp⟩ : ∃ p, l[k]? = some p := ⟨_, List.getElem?_eq_getElem hlt⟩
        obtain ⟨g, off, rfl, hg, e0, e1⟩ := (Hl.out.fr Hf.out).cell hp
        simp only at e0 e1
        cases k with
        | zero =>
          have HA := Lib.hid (hoodAt_zero hp)
          clear hp
          simp only [Nat.zero_mul, Nat.add_zero] at e0 e1
          go_wp2
          (refine wp_region_text (by kernel_rfl) (by kernel_rfl) ?_)
          go_wp2
          all_goals
            refine Strict.intro rfl ?_
            go_wp2
            first
              | (go_ret; exact ⟨ret_bool' (hoodR_false hlt (HA.out.trans (by simp; try omega))).symm, by first | (have := Hf.out; (repeat (first | exact Fr.refl _ _ | assumption | apply Fr.drewN | apply Fr.drew | apply Fr.alloc | refine Fr.setCell ?_ (Or.inr (by simp; try omega)) _)); done) | exact Fr.trans0 (by have := Hf.out; (repeat (first | exact Fr.refl _ _ | assumption | apply Fr.drewN | apply Fr.drew | apply Fr.alloc | refine Fr.setCell ?_ (Or.inr (by simp; try omega)) _))) Hf1.out⟩)
              | (go_roundw
                 case rel =>
                   refine ⟨0 + 1, by go_num, by omega, fun j hj => ?_, by first | (have := Hf.out; (repeat (first | exact Fr.refl _ _ | assumption | apply Fr.drewN | apply Fr.drew | apply Fr.alloc | refine Fr.setCell ?_ (Or.inr (by simp; try omega)) _)); done) | exact Fr.trans0 (by have := Hf.out; (repeat (first | exact Fr.refl _ _ | assumption | apply Fr.drewN | apply Fr.drew | apply Fr.alloc | refine Fr.setCell ?_ (Or.inr (by simp; try omega)) _))) Hf1.out⟩
                   rcases Nat.lt_or_ge j (0) with h | h
                   · exact Hk.out j h
                   · obtain rfl : j = 0 := by omega
                     exact HA.out.trans (by simp; try omega)
                 case measure => simp [intOf]; omega)
        | succ k =>
          obtain ⟨⟨u, v⟩, hq⟩ : ∃ p, l[k]? = some p := ⟨_, List.getElem?_eq_getElem (by omega)⟩
          obtain ⟨g', off', he, _, e2, e3⟩ := (Hl.out.fr Hf.out).cell hq
          cases he
          simp only at e2 e3
          have ha := hoodAt_succ hp hq
          have hc := fun w => before_calls (p := (u, v)) (q := (x, y)) (w := w)
          simp only at hc
          generalize before (u, v) (x, y) = b at ha hc
          have HA := Lib.hid ha
          have HC := Lib.hid hc
          clear hp hq ha hc
          cases b
          all_goals
            go_wp2
            (refine wp_region_text (by kernel_rfl) (by kernel_rfl) ?_)
            go_wp2_with (refine (HC.out _).mono ?_; rintro e w1 ⟨rfl, hf⟩; have Hf1 := Lib.hid hf; clear hf)
            all_goals
              refine Strict.intro rfl ?_
              go_wp2
              first
                | (go_ret; exact ⟨ret_bool' (hoodR_false hlt (HA.out.trans (by simp; try omega))).symm, by first | (have := Hf.out; (repeat (first | exact Fr.refl _ _ | assumption | apply Fr.drewN | apply Fr.drew | apply Fr.alloc | refine Fr.setCell ?_ (Or.inr (by simp; try omega)) _)); done) | exact Fr.trans0 (by have := Hf.out; (repeat (first | exact Fr.refl _ _ | assumption | apply Fr.drewN | apply Fr.drew | apply Fr.alloc | refine Fr.setCell ?_ (Or.inr (by simp; try omega)) _))) Hf1.out⟩)
                | (go_roundw
                   case rel =>
                     refine ⟨(k + 1) + 1, by go_num, by omega, fun j hj => ?_, by first | (have := Hf.out; (repeat (first | exact Fr.refl _ _ | assumption | apply Fr.drewN | apply Fr.drew | apply Fr.alloc | refine Fr.setCell ?_ (Or.inr (by simp; try omega)) _)); done) | exact Fr.trans0 (by have := Hf.out; (repeat (first | exact Fr.refl _ _ | assumption | apply Fr.drewN | apply Fr.drew | apply Fr.alloc | refine Fr.setCell ?_ (Or.inr (by simp; try omega)) _))) Hf1.out⟩
                     rcases Nat.lt_or_ge j ((k + 1)) with h | h
                     · exact Hk.out j h
                     · obtain rfl : j = (k + 1) := by omega
                       exact HA.out.trans (by simp; try omega)
                   case measure => simp [intOf]; omega)
      · obtain rfl : k = l.length := by omega
        go_wp2
        go_ret
        exact ⟨ret_bool' (hoodR_true h1 h2 Hk.out).symm, Hf.out⟩
  · rw [hoodR_len h1]
    have h2 : l.length = 0 ∨ 25 < l.length := by omega
    clear h1
    rcases h2 with h | h
    · go_enter Try.func63, Try.ntmps63
      go_wp2
      go_ret
      exact ⟨rfl, by (repeat (first | exact Fr.refl _ _ | assumption | apply Fr.drewN | apply Fr.drew | apply Fr.alloc | refine Fr.setCell ?_ (Or.inr (by simp; try omega)) _))⟩
    · go_enter Try.func63, Try.ntmps63
      go_wp2
      go_ret
      exact ⟨rfl, by (repeat (first | exact Fr.refl _ _ | assumption | apply Fr.drewN | apply Fr.drew | apply Fr.alloc | refine Fr.setCell ?_ (Or.inr (by simp; try omega)) _))⟩
theorem Abs_calls {n : Int} (h1 : -1000 ≤ n) (h2 : n ≤ 1000) (w : World) : Calls Try.prog 67 #[.int .i64 n] w fun e w' => e = .returned (.int .i64 (max n (-n))) ∧ w = w' := by
  go_enter Try.func67, Try.ntmps67
  go_wp2
  all_goals
    go_ret
    exact ⟨ret_int' (by omega), rfl⟩
set_option maxHeartbeats 4000000 in
theorem RHRadius_calls {w : World} {l : List (Int × Int)} {a : Option Addr} {c : Nat} (hl : PtsAt w (.slice a l.length c) l) (hlen : l.length ≤ 1000000) :
    Calls Try.prog 46 #[.slice a l.length c] w fun e w' => e = .returned (.int .i64 (radius l)) ∧ Fr [] w w' := by
  have hr := fun w1 (hf : Fr [] w w1) => RHRight_calls (hl.fr hf) hlen
  have HR := Lib.hid hr
  have Hl := Lib.hid hl
  clear hl hr
  cases hR : hoodR l with
  | false =>
    have H := Lib.hid (radius_false hR)
    rw [hR] at HR
    clear hR
    go_enter Try.func46, Try.ntmps46
    go_wp2_with fail
    refine (HR.out _ (by (repeat (first | exact Fr.refl _ _ | assumption | apply Fr.drewN | apply Fr.drew | apply Fr.alloc | refine Fr.setCell ?_ (Or.inr (by simp; try omega)) _)))).mono ?_
    rintro e w1 ⟨rfl, hf⟩
    have Hf := Lib.hid hf
    clear hf
    go_wp2
    go_ret
    exact ⟨ret_int' H.out.symm, Fr.trans0 (by (repeat (first | exact Fr.refl _ _ | assumption | apply Fr.drewN | apply Fr.drew | apply Fr.alloc | refine Fr.setCell ?_ (Or.inr (by simp; try omega)) _))) Hf.out⟩
  | true =>
    have H := Lib.hid (radius_true hR)
    have HF := Lib.hid (fold_rad2 hR)
    have HN := Lib.hid (fun k p (h : l[k]? = some p) => hood_near hR h)
    rw [hR] at HR
    clear hR
    go_enter Try.func46, Try.ntmps46
    go_wp2_with fail
    refine (HR.out _ (by (repeat (first | exact Fr.refl _ _ | assumption | apply Fr.drewN | apply Fr.drew | apply Fr.alloc | refine Fr.setCell ?_ (Or.inr (by simp; try omega)) _)))).mono ?_
    rintro e w1 ⟨rfl, hf⟩
    have Hf := Lib.hid (Fr.trans0 (by (repeat (first | exact Fr.refl _ _ | assumption | apply Fr.drewN | apply Fr.drew | apply Fr.alloc | refine Fr.setCell ?_ (Or.inr (by simp; try omega)) _)) : Fr [] w _) hf)
    clear hf
    go_wp2
    go_loopw [3, 4] (fun r x wr => ∃ k : Nat, x = .int .i64 k ∧ k ≤ l.length ∧ r = .int .i64 ((l.take k).foldl radMax 0) ∧ Fr [] w wr) (fun _ x _ => l.length - (intOf x).toNat)
    case atStart => exact ⟨0, rfl, by omega, rfl, Hf.out⟩
    case round =>
      clear Hf
      obtain ⟨k, rfl, hk, rfl, hf⟩ := hrel
      have Hf := Lib.hid hf
      clear hf
      by_cases hlt : k < l.length
      · obtain ⟨⟨x, y⟩, hp⟩ : ∃ p, l[k]? = some p := ⟨_, List.getElem?_eq_getElem hlt⟩
        obtain ⟨g, off, rfl, hg, e0, e1⟩ := (Hl.out.fr Hf.out).cell hp
        have HS := Lib.hid (foldl_take_succ hp 0)
        obtain ⟨n1, n2, n3, n4⟩ := HN.out k _ hp
        obtain ⟨f1, f2⟩ := HF.out k
        simp only at e0 e1 n1 n2 n3 n4
        generalize (l.take k).foldl radMax 0 = r at HS f1 f2 ⊢
        clear hp
        have hX := fun w => Abs_calls (n := x) (by omega) (by omega) w
        have hY := fun w => Abs_calls (n := y) (by omega) (by omega) w
        have hrad := max_rad2 r x y
        generalize max x (-x) = ax at hX hrad
        generalize max y (-y) = ay at hY hrad
        have HX := Lib.hid hX
        have HY := Lib.hid hY
        have HM := Lib.hid hrad
        clear hX hY hrad
        go_wp2
        refine wp_region_segs [([0, 1, 2, 3, 4, 5, 7, 8, 9, 10, 11, 6], [11]), ([12, 13, 14], [])] (by kernel_rfl) (by kernel_rfl) ?_
        (simp only [wpSegs, pick, Array.getD_eq_getD_getElem?, List.getElem?_toArray, List.getElem?_cons_succ, List.getElem?_cons_zero, Option.getD_some])
        go_wp2_with fail
        refine (HX.out _).mono ?_
        rintro e w2 ⟨rfl, rfl⟩
        go_wp2
        refine Mid.intro ⟨⟨again_cell (T := 3) rfl rfl rfl Try.underlying3 rfl (by simp [go_sem, e1]) rfl, trivial⟩, ?_⟩
        go_wp2_with fail
        refine (HY.out _).mono ?_
        rintro e w2 ⟨rfl, rfl⟩
        go_wp2
        all_goals
          refine Mid.intro ⟨trivial, Strict.intro rfl ?_⟩
          go_wp2
          go_roundw
          case rel => exact ⟨k + 1, by go_num, by omega, by rw [HS.out, ← HM.out]; exact int_eq (by omega), by have := Hf.out; (repeat (first | exact Fr.refl _ _ | assumption | apply Fr.drewN | apply Fr.drew | apply Fr.alloc | refine Fr.setCell ?_ (Or.inr (by simp; try omega)) _))⟩
          case measure => simp [intOf]; omega
      · obtain rfl : k = l.length := by omega
        have e : (l.take l.length).foldl radMax 0 = radius l := by rw [List.take_length]; exact H.out.symm
        rw [e]
        clear e
        go_wp2
        go_ret
        exact ⟨rfl, Hf.out⟩
end Go.Proofs.Ytppmnmheodimoaa
end
