/- The reference of layer 25: level, find. -/
import Derived.Test.YtgeomalefpjfdaaQc
import Derived.Test.YtgeomalefpjfdaaRd
namespace Go.Proofs.Ytgeomalefpjfdaa
open Go Go.RowKit Go.Proofs.Rg Go.Proofs.Mp Go.Proofs.Hp Go.Proofs.Qs
theorem lvl_known {s : Int} {ls : List Int} {id : Int} (h : 0 ≤ lvl s ls id) : 0 ≤ id ∧ id < s + ls.length ∨ 0 ≤ id ∧ id < s := by
  unfold lvl at h
  by_cases h1 : id < 0
  · rw [if_pos h1] at h; omega
  · rw [if_neg h1] at h
    by_cases h2 : id < s
    · right; omega
    · rw [if_neg h2] at h
      left
      refine ⟨by omega, ?_⟩
      rcases Nat.lt_or_ge (id - s).toNat ls.length with h3 | h3
      · omega
      · rw [List.getD_eq_getElem?_getD, List.getElem?_eq_none h3] at h
        simp at h
theorem lvl_take {s : Int} {ns : List K4} {i : Nat} {id : Int} (_ : i ≤ ns.length) (h : id < s + i) : lvl s (levs s (ns.take i)) id = lvl s (levs s ns) id := by
  unfold lvl
  by_cases h1 : id < 0
  · rw [if_pos h1, if_pos h1]
  · rw [if_neg h1, if_neg h1]
    by_cases h2 : id < s
    · rw [if_pos h2, if_pos h2]
    · rw [if_neg h2, if_neg h2, ← levs_take, List.getD_eq_getElem?_getD, List.getD_eq_getElem?_getD, List.getElem?_take, if_pos (by omega)]
/-- the first quadrant of a node: known, and one level below -/
theorem kid_down {s : Int} {ns : List K4} (h : GoodQ s ns) {j : Nat} {k : K4} (hj : ns[j]? = some k) : 0 ≤ k.a ∧ k.a < s + j ∧ lvl s (levs s ns) (s + j) = lvl s (levs s ns) k.a + 1 := by
  have hs : 2 ≤ s := h.1
  have hlt : j < ns.length := (List.getElem?_eq_some_iff.1 hj).1
  obtain ⟨l, hl, _, _, he⟩ := lvl_pos h hj
  have hf := (h.2.2.2.2 j k hj).1
  have hk := lvl_known hf
  have hlen : (levs s (ns.take j)).length = j := by rw [levs_length, List.length_take]; omega
  have hka : 0 ≤ k.a ∧ k.a < s + j := by omega
  refine ⟨hka.1, hka.2, ?_⟩
  rw [← lvl_take (by omega) hka.2, ← he]
  unfold lvl
  rw [if_neg (by omega), if_neg (by omega), show (s + (j : Int) - s).toNat = j by omega, List.getD_eq_getElem?_getD, hl]
  rfl
set_option maxHeartbeats 2000000 in
theorem level_ref {w : World} {s : Int} {ns : List K4} {v : Value} (hG : GoodQ s ns) (hv : Reads w v ns.length 4 (flat ns)) (id : Int) :
    Calls Try.prog 35 #[.agg #[.int .i64 s, v], .int .i64 id] w fun e w' => e = .returned (.int .i64 (lvl s (levs s ns) id)) ∧ ∃ o, w' = w.alloc o := by
  have hs1 := hG.1
  have hs2 := hG.2.1
  have hlen := hG.2.2.1
  have hln := levs_length s ns
  obtain ⟨_, a, c, rfl, hav⟩ := hv
  have hl : ns.length ≤ 1048576 := by omega
  by_cases hneg : id < 0
  · have e : lvl s (levs s ns) id = -1 := by unfold lvl; rw [if_pos hneg]
    rw [e]
    have hd : decide (id < 0) = true := by simpa using hneg
    clear hav hln hlen hG
    go_enter Try.func35, Try.ntmps35
    go_wp2
    go_ret
    exact ⟨rfl, _, rfl⟩
  · by_cases hfar : s + ns.length ≤ id
    · rw [lvl_far (by omega) hfar]
      have hd : decide (id < 0) = false := by simp; omega
      clear hav hln hlen hG
      go_enter Try.func35, Try.ntmps35
      go_wp2
      go_ret
      exact ⟨rfl, _, rfl⟩
    · have hd : decide (id < 0) = false := by simp; omega
      have Hav := Lib.hid hav
      have Hln := Lib.hid hln
      clear hav hln hlen
      go_enter Try.func35, Try.ntmps35
      go_wp2
      go_loop [1, 5] (fun x y => ∃ (i : Int) (n : Nat), x = .int .i64 i ∧ y = .int .i64 n ∧ 0 ≤ i ∧ i < s + ns.length ∧ n + i.toNat ≤ id.toNat ∧ lvl s (levs s ns) i + n = lvl s (levs s ns) id) (fun x _ => (intOf x).toNat)
      case atStart => exact ⟨id, 0, rfl, rfl, by omega, by omega, by omega, by omega⟩
      case round =>
        obtain ⟨i, n, rfl, rfl, hi0, hi1, hn, hL⟩ := hrel
        have HL := Lib.hid hL
        clear hL
        by_cases hge : s ≤ i
        · obtain ⟨j, rfl⟩ : ∃ j : Nat, i = s + j := ⟨(i - s).toNat, by omega⟩
          have hj : j < ns.length := by omega
          obtain ⟨g, off, rfl, hg, hc⟩ := Hav.out (by omega)
          have hk := kid_down hG (List.getElem?_eq_getElem hj)
          have hcell : w.cell? ⟨g, off + j * 4, none⟩ = some (.int .i64 (ns[j]).a) := hc _ _ (by rw [Nat.mul_comm]; exact (flat_get (List.getElem?_eq_getElem hj)).1)
          have hw1 : IntKind.i64.wrap (s + ↑j - s) = ↑j := IntWalk.i64_in _ (by omega) |>.trans (by omega)
          obtain ⟨k, hkk⟩ : ∃ k, k = (ns[j]).a := ⟨_, rfl⟩
          rw [← hkk] at hcell hk
          have Hk := Lib.hid hk
          have hk0 := hk.1
          have hk1 := hk.2.1
          clear hk hkk hc
          go_wp2
          go_round
          case rel => exact ⟨k, n + 1, rfl, by go_num, hk0, by omega, by omega, by have := Hk.out.2.2; have := HL.out; omega⟩
          case measure => simp [intOf]; omega
        · go_wp2
          go_ret
          refine ⟨?_, _, rfl⟩
          have h0 : lvl s (levs s ns) i = 0 := by unfold lvl; rw [if_neg (by omega), if_pos (by omega)]
          have := HL.out
          rw [show lvl s (levs s ns) id = n by omega]
          rfl
/-- what find returns -/
def findR (ns : List K4) (k : K4) : Int := match ns.idxOf? k with
  | some i => i
  | none => -1
theorem findR_at {ns : List K4} {k : K4} {i : Nat} (hi : i < ns.length) (he : ns[i] = k) (hn : ∀ j (h : j < ns.length), j < i → ns[j] ≠ k) : findR ns k = i := by
  have : ns.idxOf? k = some i := by
    rw [List.idxOf?_eq_some_iff]
    exact ⟨hi, he, fun j hj => hn j (by omega) hj⟩
  unfold findR; rw [this]
theorem findR_none {ns : List K4} {k : K4} (hn : ∀ j (h : j < ns.length), ns[j] ≠ k) : findR ns k = -1 := by
  have : ns.idxOf? k = none := by
    rw [List.idxOf?_eq_none_iff]
    intro hm
    obtain ⟨j, hj, e⟩ := List.getElem_of_mem hm
    exact hn j hj e
  unfold findR; rw [this]
set_option maxHeartbeats 2000000 in
theorem find_ref {w : World} {s : Int} {ns : List K4} {v : Value} (hl : ns.length ≤ 1048576) (hv : Reads w v ns.length 4 (flat ns)) (l : K4) :
    Calls Try.prog 36 #[.agg #[.int .i64 s, v], kv l] w fun e w' => e = .returned (.int .i64 (findR ns l)) ∧ ∃ o1 o2 n, w' = ((w.alloc o1).alloc o2).drewN n := by
  obtain ⟨_, a, c, rfl, hav⟩ := hv
  have Hav := Lib.hid hav
  clear hav
  unfold kv
  go_enter Try.func36, Try.ntmps36
  go_wp2
  go_loopw [5] (fun x wr => ∃ (k m : Nat), x = .int .i64 k ∧ k ≤ ns.length ∧ (∀ j (h : j < ns.length), j < k → ns[j] ≠ l) ∧ wr = (((w.alloc (.cells #[.int .i64 s, .slice a ns.length c] 24)).alloc (.cells #[.int .i64 l.a, .int .i64 l.b, .int .i64 l.c, .int .i64 l.d] 57))).drewN m) (fun x _ => ns.length - (intOf x).toNat)
  case atStart => exact ⟨0, 0, rfl, by omega, by omega, rfl⟩
  case round =>
    obtain ⟨k, m, rfl, hk, hn, rfl⟩ := hrel
    have Hn := Lib.hid hn
    clear hn
    by_cases hlt : k < ns.length
    · obtain ⟨g, off, rfl, hg, hc⟩ := Hav.out (by omega)
      obtain ⟨f0, f1, f2, f3⟩ := flat_get (List.getElem?_eq_getElem hlt)
      rw [Nat.mul_comm] at f0 f1 f2 f3
      obtain ⟨x, hx⟩ : ∃ x, x = ns[k] := ⟨_, rfl⟩
      rw [← hx] at f0 f1 f2 f3
      have e0 := hc _ _ f0
      have e1 := hc _ _ f1
      have e2 := hc _ _ f2
      have e3 := hc _ _ f3
      simp only [← Nat.add_assoc] at e1 e2 e3
      have Hx := Lib.hid hx
      clear hx hc f0 f1 f2 f3
      by_cases hxl : x.a = l.a ∧ x.b = l.b ∧ x.c = l.c ∧ x.d = l.d
      · have hq : (x.a == l.a && (x.b == l.b && (x.c == l.c && x.d == l.d))) = true := by simpa using hxl
        have Hxl := Lib.hid hxl
        clear hxl
        go_wp2
        refine wp_region_text (by kernel_rfl) (by kernel_rfl) ?_
        go_wp2
        refine Strict.intro rfl ?_
        go_wp2
        go_ret
        refine ⟨?_, _, _, m + 1, rfl⟩
        have hx := Hx.out
        have : findR ns l = k := findR_at hlt (by rw [← hx]; obtain ⟨h1, h2, h3, h4⟩ := Hxl.out; cases x; cases l; simp_all) Hn.out
        rw [this]
        rfl
      · have hq : (x.a == l.a && (x.b == l.b && (x.c == l.c && x.d == l.d))) = false := by rw [Bool.eq_false_iff]; intro h; apply hxl; simpa using h
        have Hxl := Lib.hid hxl
        clear hxl
        go_wp2
        refine wp_region_text (by kernel_rfl) (by kernel_rfl) ?_
        go_wp2
        refine Strict.intro rfl ?_
        go_wp2
        go_roundw
        case rel =>
          refine ⟨k + 1, m + 1, by go_num, by omega, fun j hj hjk => ?_, rfl⟩
          rcases Nat.lt_or_ge j k with h | h
          · exact Hn.out j hj h
          · obtain rfl : j = k := by omega
            intro e
            have hx := Hx.out
            rw [e] at hx
            exact Hxl.out (by rw [hx]; exact ⟨rfl, rfl, rfl, rfl⟩)
        case measure => simp [intOf]; omega
    · go_wp2
      go_ret
      refine ⟨?_, _, _, m, rfl⟩
      have : findR ns l = -1 := findR_none fun j hj => Hn.out j hj (by omega)
      rw [this]
      rfl
/-- what copied leaves -/
def sameQ (s1 s2 : Int) (n1 n2 : List K4) : Bool := s1 == s2 && decide (n1 = n2)
end Go.Proofs.Ytgeomalefpjfdaa
