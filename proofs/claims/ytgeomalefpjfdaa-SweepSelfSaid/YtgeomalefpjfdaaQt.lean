/- The reference of layer 25: Same, Right. -/
import Derived.Test.YtgeomalefpjfdaaQr
namespace Go.Proofs.Ytgeomalefpjfdaa
open Go Go.RowKit Go.Proofs.Rg Go.Proofs.Mp Go.Proofs.Hp Go.Proofs.Qs
theorem kids_eq (x l : K4) : (x.a == l.a && (x.b == l.b && (x.c == l.c && x.d == l.d))) = decide (x = l) := by
  rw [Bool.eq_iff_iff]; cases x; cases l; simp
set_option maxHeartbeats 2000000 in
theorem Same_far {w : World} {s1 s2 : Int} {n1 n2 : Nat} {a1 a2 : Option Addr} {c1 c2 : Nat} (h : s1 ≠ s2 ∨ s1 = s2 ∧ n1 ≠ n2) :
    Calls Try.prog 14 #[.agg #[.int .i64 s1, .slice a1 n1 c1], .agg #[.int .i64 s2, .slice a2 n2 c2]] w fun e w' => e = .returned (.bool false) ∧ ∃ o1 o2, w' = (w.alloc o1).alloc o2 := by
  rcases h with h | ⟨rfl, h⟩
  · have hb : (s1 != s2) = true := by simpa using h
    go_enter Try.func14, Try.ntmps14
    go_wp2
    go_ret
    exact ⟨rfl, _, _, rfl⟩
  · have hb : ((n1 : Int) != (n2 : Int)) = true := by simp; omega
    have hc : (s1 != s1) = false := by simp
    go_enter Try.func14, Try.ntmps14
    go_wp2
    go_ret
    exact ⟨rfl, _, _, rfl⟩
set_option maxHeartbeats 2000000 in
theorem Same_near {w : World} {s : Int} {n1 n2 : List K4} {v1 v2 : Value} (hl : n1.length ≤ 1048576) (he : n2.length = n1.length) (h1 : Reads w v1 n1.length 4 (flat n1)) (h2 : Reads w v2 n2.length 4 (flat n2)) :
    Calls Try.prog 14 #[.agg #[.int .i64 s, v1], .agg #[.int .i64 s, v2]] w fun e w' => e = .returned (.bool (decide (n1 = n2))) ∧ ∃ o1 o2 n, w' = ((w.alloc o1).alloc o2).drewN n := by
  obtain ⟨_, a1, c1, rfl, ha1⟩ := h1
  obtain ⟨_, a2, c2, rfl, ha2⟩ := h2
  have Ha1 := Lib.hid ha1
  have Ha2 := Lib.hid ha2
  rw [he]
  have He := Lib.hid he
  clear ha1 ha2 he
  have hc : (s != s) = false := by simp
  have hd : ((n1.length : Int) != (n1.length : Int)) = false := by simp
  go_enter Try.func14, Try.ntmps14
  go_wp2
  go_loopw [5] (fun x wr => ∃ (k m : Nat), x = .int .i64 k ∧ k ≤ n1.length ∧ (∀ j, j < k → n1[j]? = n2[j]?) ∧ wr = (((w.alloc (.cells #[.int .i64 s, .slice a1 n1.length c1] 24)).alloc (.cells #[.int .i64 s, .slice a2 n1.length c2] 24))).drewN m) (fun x _ => n1.length - (intOf x).toNat)
  case atStart => exact ⟨0, 0, rfl, by omega, by omega, rfl⟩
  case round =>
    obtain ⟨k, m, rfl, hk, hn, rfl⟩ := hrel
    have Hn := Lib.hid hn
    clear hn
    by_cases hlt : k < n1.length
    · have hlt2 : k < n2.length := by have := He.out; omega
      obtain ⟨g1, off1, rfl, hg1, hc1⟩ := Ha1.out (by omega)
      obtain ⟨g2, off2, rfl, hg2, hc2⟩ := Ha2.out (by omega)
      obtain ⟨f0, f1, f2, f3⟩ := flat_get (List.getElem?_eq_getElem hlt)
      obtain ⟨i0, i1, i2, i3⟩ := flat_get (List.getElem?_eq_getElem hlt2)
      rw [Nat.mul_comm] at f0 f1 f2 f3 i0 i1 i2 i3
      obtain ⟨x, hx⟩ : ∃ x, x = n1[k] := ⟨_, rfl⟩
      obtain ⟨y, hy⟩ : ∃ y, y = n2[k] := ⟨_, rfl⟩
      rw [← hx] at f0 f1 f2 f3
      rw [← hy] at i0 i1 i2 i3
      have e0 := hc1 _ _ f0
      have e1 := hc1 _ _ f1
      have e2 := hc1 _ _ f2
      have e3 := hc1 _ _ f3
      have d0 := hc2 _ _ i0
      have d1 := hc2 _ _ i1
      have d2 := hc2 _ _ i2
      have d3 := hc2 _ _ i3
      simp only [← Nat.add_assoc] at e1 e2 e3 d1 d2 d3
      have Hx := Lib.hid hx
      have Hy := Lib.hid hy
      have Hlt2 := Lib.hid hlt2
      clear hx hy hc1 hc2 f0 f1 f2 f3 i0 i1 i2 i3
      by_cases hxy : x = y
      · have hq : (x.a == y.a && (x.b == y.b && (x.c == y.c && x.d == y.d))) = true := by rw [kids_eq]; simpa using hxy
        have Hxy := Lib.hid hxy
        clear hxy
        go_wp2
        (refine wp_region_text (by kernel_rfl) (by kernel_rfl) ?_)
        go_wp2
        refine Strict.intro rfl ?_
        go_wp2
        go_roundw
        case rel =>
          refine ⟨k + 1, m + 1, by go_num, by omega, fun j hj => ?_, rfl⟩
          rcases Nat.lt_or_ge j k with h | h
          · exact Hn.out j h
          · obtain rfl : j = k := by omega
            rw [List.getElem?_eq_getElem hlt, List.getElem?_eq_getElem Hlt2.out, ← Hx.out, ← Hy.out, Hxy.out]
        case measure => simp [intOf]; omega
      · have hq : (x.a == y.a && (x.b == y.b && (x.c == y.c && x.d == y.d))) = false := by rw [kids_eq]; simpa using hxy
        have Hxy := Lib.hid hxy
        clear hxy
        go_wp2
        (refine wp_region_text (by kernel_rfl) (by kernel_rfl) ?_)
        go_wp2
        refine Strict.intro rfl ?_
        go_wp2
        go_ret
        refine ⟨?_, _, _, m + 1, rfl⟩
        have : decide (n1 = n2) = false := by
          rw [decide_eq_false_iff_not]
          intro e
          apply Hxy.out
          rw [Hx.out, Hy.out]
          have := congrArg (fun l : List K4 => l[k]?) e
          simp only [List.getElem?_eq_getElem hlt, List.getElem?_eq_getElem Hlt2.out] at this
          exact Option.some.inj this
        rw [this]
        rfl
    · go_wp2
      go_ret
      refine ⟨?_, _, _, m, rfl⟩
      have : decide (n1 = n2) = true := by
        rw [decide_eq_true_iff]
        apply List.ext_getElem?
        intro j
        rcases Nat.lt_or_ge j k with h | h
        · exact Hn.out j h
        · rw [List.getElem?_eq_none (by omega), List.getElem?_eq_none (by have := He.out; omega)]
      rw [this]
      rfl
/-- Same at any lengths -/
theorem Same_ref {w : World} {s1 s2 : Int} {n1 n2 : List K4} {v1 v2 : Value} (hl : n1.length ≤ 1048576) (h1 : Reads w v1 n1.length 4 (flat n1)) (h2 : Reads w v2 n2.length 4 (flat n2)) :
    Calls Try.prog 14 #[.agg #[.int .i64 s1, v1], .agg #[.int .i64 s2, v2]] w fun e w' => e = .returned (.bool (sameQ s1 s2 n1 n2)) ∧ ∃ o1 o2 n, w' = ((w.alloc o1).alloc o2).drewN n := by
  by_cases hs : s1 = s2
  · subst hs
    by_cases hn : n1.length = n2.length
    · have : sameQ s1 s1 n1 n2 = decide (n1 = n2) := by simp [sameQ]
      rw [this]
      exact Same_near hl hn.symm h1 h2
    · have : sameQ s1 s1 n1 n2 = false := by
        have : ¬ n1 = n2 := fun e => hn (by rw [e])
        simp [sameQ, this]
      rw [this]
      obtain ⟨_, a1, c1, rfl, _⟩ := h1
      obtain ⟨_, a2, c2, rfl, _⟩ := h2
      refine (Same_far (.inr ⟨rfl, hn⟩)).mono ?_
      rintro e w' ⟨rfl, o1, o2, rfl⟩
      exact ⟨rfl, o1, o2, 0, rfl⟩
  · have : sameQ s1 s2 n1 n2 = false := by simp [sameQ, hs]
    rw [this]
    obtain ⟨_, a1, c1, rfl, _⟩ := h1
    obtain ⟨_, a2, c2, rfl, _⟩ := h2
    refine (Same_far (.inl hs)).mono ?_
    rintro e w' ⟨rfl, o1, o2, rfl⟩
    exact ⟨rfl, o1, o2, 0, rfl⟩
end Go.Proofs.Ytgeomalefpjfdaa
