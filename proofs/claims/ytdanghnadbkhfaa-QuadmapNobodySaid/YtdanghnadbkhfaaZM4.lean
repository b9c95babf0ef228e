/- Own texts of this claim, part 5: no condition. -/
import Derived.Test.YtdanghnadbkhfaaZM3
import Derived.Test.YtdanghnadbkhfaaZM2
set_option linter.unusedVariables false
set_option linter.unusedSimpArgs false
section
/- The reference of layer 25: level, find. -/
namespace Go.Proofs.Ytdanghnadbkhfaa
set_option linter.unusedVariables false
set_option linter.unusedSimpArgs false
open Go Go.RowKit Go.Proofs.Rg Go.Proofs.Mp Go.Proofs.Hp Go.Proofs.Qs
theorem lvl_known {s : Int} {ls : List Int} {id : Int} (h : 0 ≤ lvl s ls id) : 0 ≤ id ∧ id < s + ls.length ∨ 0 ≤ id ∧ id < s := by
  unfold lvl at h
  by_cases h1 : id < 0
  · rw [if_pos h1] at h; omega
  · rw [if_neg h1] at h
    by_cases h2 : id < s
    · right; omega
    · rw [if_neg h2] at h
      left
      refine ⟨by omega, ?_⟩
      rcases Nat.lt_or_ge (id - s).toNat ls.length with h3 | h3
      · omega
      · rw [List.getD_eq_getElem?_getD, List.getElem?_eq_none h3] at h
        simp at h
theorem lvl_take {s : Int} {ns : List K4} {i : Nat} {id : Int} (_ : i ≤ ns.length) (h : id < s + i) : lvl s (levs s (ns.take i)) id = lvl s (levs s ns) id := by
  unfold lvl
  by_cases h1 : id < 0
  · rw [if_pos h1, if_pos h1]
  · rw [if_neg h1, if_neg h1]
    by_cases h2 : id < s
    · rw [if_pos h2, if_pos h2]
    · rw [if_neg h2, if_neg h2, ← levs_take, List.getD_eq_getElem?_getD, List.getD_eq_getElem?_getD, List.getElem?_take, if_pos (by omega)]
/-- the first quadrant of a node: known, and one level below -/
theorem kid_down {s : Int} {ns : List K4} (h : GoodQ s ns) {j : Nat} {k : K4} (hj : ns[j]? = some k) : 0 ≤ k.a ∧ k.a < s + j ∧ lvl s (levs s ns) (s + j) = lvl s (levs s ns) k.a + 1 := by
  have hs : 2 ≤ s := h.1
  have hlt : j < ns.length := (List.getElem?_eq_some_iff.1 hj).1
  obtain ⟨l, hl, _, _, he⟩ := lvl_pos h hj
  have hf := (h.2.2.2.2 j k hj).1
  have hk := lvl_known hf
  have hlen : (levs s (ns.take j)).length = j := by rw [levs_length, List.length_take]; omega
  have hka : 0 ≤ k.a ∧ k.a < s + j := by omega
  refine ⟨hka.1, hka.2, ?_⟩
  rw [← lvl_take (by omega) hka.2, ← he]
  unfold lvl
  rw [if_neg (by omega), if_neg (by omega), show (s + (j : Int) - s).toNat = j by omega, List.getD_eq_getElem?_getD, hl]
  rfl
set_option maxHeartbeats 2000000 in
theorem level_ref {w : World} {s : Int} {ns : List K4} {v : Value} (hG : GoodQ s ns) (hv : Reads w v ns.length 4 (flat ns)) (id : Int) :
    Calls Try.prog 73 #[.agg #[.int .i64 s, v], .int .i64 id] w fun e w' => e = .returned (.int .i64 (lvl s (levs s ns) id)) ∧ ∃ o, w' = w.alloc o := by
  have hs1 := hG.1
  have hs2 := hG.2.1
  have hlen := hG.2.2.1
  have hln := levs_length s ns
  obtain ⟨_, a, c, rfl, hav⟩ := hv
  have hl : ns.length ≤ 1048576 := by omega
  by_cases hneg : id < 0
  · have e : lvl s (levs s ns) id = -1 := by unfold lvl; rw [if_pos hneg]
    rw [e]
    have hd : decide (id < 0) = true := by simpa using hneg
    clear hav hln hlen hG
    go_enter Try.func73, Try.ntmps73
    go_wp2
    go_ret
    exact ⟨rfl, _, rfl⟩
  · by_cases hfar : s + ns.length ≤ id
    · rw [lvl_far (by omega) hfar]
      have hd : decide (id < 0) = false := by simp; omega
      clear hav hln hlen hG
      go_enter Try.func73, Try.ntmps73
      go_wp2
      go_ret
      exact ⟨rfl, _, rfl⟩
    · have hd : decide (id < 0) = false := by simp; omega
      have Hav := Lib.hid hav
      have Hln := Lib.hid hln
      clear hav hln hlen
      go_enter Try.func73, Try.ntmps73
      go_wp2
      go_loop [1, 5] (fun x y => ∃ (i : Int) (n : Nat), x = .int .i64 i ∧ y = .int .i64 n ∧ 0 ≤ i ∧ i < s + ns.length ∧ n + i.toNat ≤ id.toNat ∧ lvl s (levs s ns) i + n = lvl s (levs s ns) id) (fun x _ => (intOf x).toNat)
      case atStart => exact ⟨id, 0, rfl, rfl, by omega, by omega, by omega, by omega⟩
      case round =>
        obtain ⟨i, n, rfl, rfl, hi0, hi1, hn, hL⟩ := hrel
        have HL := Lib.hid hL
        clear hL
        by_cases hge : s ≤ i
        · obtain ⟨j, rfl⟩ : ∃ j : Nat, i = s + j := ⟨(i - s).toNat, by omega⟩
          have hj : j < ns.length := by omega
          obtain ⟨g, off, rfl, hg, hc⟩ := Hav.out (by omega)
          have hk := kid_down hG (List.getElem?_eq_getElem hj)
          have hcell : w.cell? ⟨g, off + j * 4, none⟩ = some (.int .i64 (ns[j]).a) := hc _ _ (by rw [Nat.mul_comm]; exact (flat_get (List.getElem?_eq_getElem hj)).1)
          have hw1 : IntKind.i64.wrap (s + ↑j - s) = ↑j := IntWalk.i64_in _ (by omega) |>.trans (by omega)
          obtain ⟨k, hkk⟩ : ∃ k, k = (ns[j]).a := ⟨_, rfl⟩
          rw [← hkk] at hcell hk
          have Hk := Lib.hid hk
          have hk0 := hk.1
          have hk1 := hk.2.1
          clear hk hkk hc
          go_wp2
          go_round
          case rel => exact ⟨k, n + 1, rfl, by go_num, hk0, by omega, by omega, by have := Hk.out.2.2; have := HL.out; omega⟩
          case measure => simp [intOf]; omega
        · go_wp2
          go_ret
          refine ⟨?_, _, rfl⟩
          have h0 : lvl s (levs s ns) i = 0 := by unfold lvl; rw [if_neg (by omega), if_pos (by omega)]
          have := HL.out
          rw [show lvl s (levs s ns) id = n by omega]
          rfl
/-- what find returns -/
def findR (ns : List K4) (k : K4) : Int := match ns.idxOf? k with
  | some i => i
  | none => -1
theorem findR_at {ns : List K4} {k : K4} {i : Nat} (hi : i < ns.length) (he : ns[i] = k) (hn : ∀ j (h : j < ns.length), j < i → ns[j] ≠ k) : findR ns k = i := by
  have : ns.idxOf? k = some i := by
    rw [List.idxOf?_eq_some_iff]
    exact ⟨hi, he, fun j hj => hn j (by omega) hj⟩
  unfold findR; rw [this]
theorem findR_none {ns : List K4} {k : K4} (hn : ∀ j (h : j < ns.length), ns[j] ≠ k) : findR ns k = -1 := by
  have : ns.idxOf? k = none := by
    rw [List.idxOf?_eq_none_iff]
    intro hm
    obtain ⟨j, hj, e⟩ := List.getElem_of_mem hm
    exact hn j hj e
  unfold findR; rw [this]
set_option maxHeartbeats 2000000 in
theorem find_ref {w : World} {s : Int} {ns : List K4} {v : Value} (hl : ns.length ≤ 1048576) (hv : Reads w v ns.length 4 (flat ns)) (l : K4) :
    Calls Try.prog 74 #[.agg #[.int .i64 s, v], kv l] w fun e w' => e = .returned (.int .i64 (findR ns l)) ∧ ∃ o1 o2 n, w' = ((w.alloc o1).alloc o2).drewN n := by
  obtain ⟨_, a, c, rfl, hav⟩ := hv
  have Hav := Lib.hid hav
  clear hav
  unfold kv
  go_enter Try.func74, Try.ntmps74
  go_wp2
  go_loopw [5] (fun x wr => ∃ (k m : Nat), x = .int .i64 k ∧ k ≤ ns.length ∧ (∀ j (h : j < ns.length), j < k → ns[j] ≠ l) ∧ wr = (((w.alloc (.cells #[.int .i64 s, .slice a ns.length c] 56)).alloc (.cells #[.int .i64 l.a, .int .i64 l.b, .int .i64 l.c, .int .i64 l.d] 97))).drewN m) (fun x _ => ns.length - (intOf x).toNat)
  case atStart => exact ⟨0, 0, rfl, by omega, by omega, rfl⟩
  case round =>
    obtain ⟨k, m, rfl, hk, hn, rfl⟩ := hrel
    have Hn := Lib.hid hn
    clear hn
    by_cases hlt : k < ns.length
    · obtain ⟨g, off, rfl, hg, hc⟩ := Hav.out (by omega)
      obtain ⟨f0, f1, f2, f3⟩ := flat_get (List.getElem?_eq_getElem hlt)
      rw [Nat.mul_comm] at f0 f1 f2 f3
      obtain ⟨x, hx⟩ : ∃ x, x = ns[k] := ⟨_, rfl⟩
      rw [← hx] at f0 f1 f2 f3
      have e0 := hc _ _ f0
      have e1 := hc _ _ f1
      have e2 := hc _ _ f2
      have e3 := hc _ _ f3
      simp only [← Nat.add_assoc] at e1 e2 e3
      have Hx := Lib.hid hx
      clear hx hc f0 f1 f2 f3
      by_cases hxl : x.a = l.a ∧ x.b = l.b ∧ x.c = l.c ∧ x.d = l.d
      · have hq : (x.a == l.a && (x.b == l.b && (x.c == l.c && x.d == l.d))) = true := by simpa using hxl
        have Hxl := Lib.hid hxl
        clear hxl
        go_wp2
        refine wp_region_text (by kernel_rfl) (by kernel_rfl) ?_
        go_wp2
        refine Strict.intro rfl ?_
        go_wp2
        go_ret
        refine ⟨?_, _, _, m + 1, rfl⟩
        have hx := Hx.out
        have : findR ns l = k := findR_at hlt (by rw [← hx]; obtain ⟨h1, h2, h3, h4⟩ := Hxl.out; cases x; cases l; simp_all) Hn.out
        rw [this]
        rfl
      · have hq : (x.a == l.a && (x.b == l.b && (x.c == l.c && x.d == l.d))) = false := by rw [Bool.eq_false_iff]; intro h; apply hxl; simpa using h
        have Hxl := Lib.hid hxl
        clear hxl
        go_wp2
        refine wp_region_text (by kernel_rfl) (by kernel_rfl) ?_
        go_wp2
        refine Strict.intro rfl ?_
        go_wp2
        go_roundw
        case rel =>
          refine ⟨k + 1, m + 1, by go_num, by omega, fun j hj hjk => ?_, rfl⟩
          rcases Nat.lt_or_ge j k with h | h
          · exact Hn.out j hj h
          · obtain rfl : j = k := by omega
            intro e
            have hx := Hx.out
            rw [e] at hx
            exact Hxl.out (by rw [hx]; exact ⟨rfl, rfl, rfl, rfl⟩)
        case measure => simp [intOf]; omega
    · go_wp2
      go_ret
      refine ⟨?_, _, _, m, rfl⟩
      have : findR ns l = -1 := findR_none fun j hj => Hn.out j hj (by omega)
      rw [this]
      rfl
/-- what copied leaves -/
def sameQ (s1 s2 : Int) (n1 n2 : List K4) : Bool := s1 == s2 && decide (n1 = n2)
end Go.Proofs.Ytdanghnadbkhfaa
end

section
/- Empty, Load, Right of package quad. -/
namespace Go.Proofs.Ytdanghnadbkhfaa
set_option linter.unusedVariables false
set_option linter.unusedSimpArgs false
open Go Go.RowKit Go.Proofs.Rg Go.Proofs.Mp Go.Proofs.Hp Go.Proofs.Qs
def four (id : Int) : K4 := ⟨id, id, id, id⟩
/-- the empty nodes that are there -/
def climb (s : Int) (ns : List K4) : Nat → Int → Nat → Int × Nat
  | 0, id, n => (id, n)
  | m + 1, id, n => match ns.idxOf? (four id) with
    | some i => climb s ns m (s + i) (n + 1)
    | none => (id, n)
/-- empty nodes laid one on the other -/
def grow (s : Int) : Nat → Int → List K4 → Int × List K4
  | 0, id, ns => (id, ns)
  | m + 1, id, ns => grow s m (join s ns (four id)).1.1 (join s ns (four id)).2
def emptyQ (s : Int) (ns : List K4) (level : Int) : (Int × Int) × List K4 :=
  if level < 0 ∨ 256 < level then ((0, 18), ns)
  else if 100000 < ns.length + (level.toNat - (climb s ns level.toNat 0 0).2) then ((0, 6), ns)
  else (((grow s (level.toNat - (climb s ns level.toNat 0 0).2) (climb s ns level.toNat 0 0).1 ns).1, 0), (grow s (level.toNat - (climb s ns level.toNat 0 0).2) (climb s ns level.toNat 0 0).1 ns).2)
theorem climb_le {s : Int} {ns : List K4} : ∀ (m : Nat) (id : Int) (n : Nat), (climb s ns m id n).2 ≤ n + m
  | 0, id, n => by simp [climb]
  | m + 1, id, n => by
    unfold climb
    split
    · have := climb_le (s := s) (ns := ns) m (s + ‹Nat›) (n + 1); omega
    · simp
/-- what a call of a store that returns two numbers leaves -/
def TwoPost (w : World) (b : Nat) (s : Int) (r : (Int × Int) × List K4) (F : List Nat) (e : Ending) (w' : World) : Prop :=
  e = .returned (.tuple #[.int .i64 r.1.1, .int .i64 r.1.2]) ∧ ∃ F', StoreAt w' b s r.2 F' ∧ Fr F w w' ∧ (∀ x ∈ F', x ∈ F ∨ w.heap.size ≤ x)
theorem TwoPost.same {w w' : World} {b : Nat} {s : Int} {ns : List K4} {F : List Nat} {r e : Int} (hS : StoreAt w b s ns F) (hf : Fr [] w w') : TwoPost w b s ((r, e), ns) F (.returned (.tuple #[.int .i64 r, .int .i64 e])) w' :=
  ⟨rfl, F, hS.fr hf (by simp), hf.mono (by simp), fun x hx => .inl hx⟩
theorem kv_four (id : Int) : (Value.agg #[.int .i64 id, .int .i64 id, .int .i64 id, .int .i64 id]) = kv (four id) := rfl
set_option maxHeartbeats 4000000 in
theorem Empty_calls {w : World} {b : Nat} {s : Int} {ns : List K4} {F : List Nat} (hS : StoreAt w b s ns F) (level : Int) :
    Calls Try.prog 27 #[.pointer (some ⟨b, 0, none⟩), .int .i64 level] w (TwoPost w b s (emptyQ s ns level) F) := by
  by_cases hneg : level < 0
  · have : emptyQ s ns level = ((0, 18), ns) := by unfold emptyQ; rw [if_pos (.inl hneg)]
    rw [this]
    have hd : decide (level < 0) = true := by simpa using hneg
    go_enter Try.func27, Try.ntmps27
    go_wp2
    go_ret2
    exact TwoPost.same hS (Fr.refl _ _)
  · by_cases hbig : 256 < level
    · have : emptyQ s ns level = ((0, 18), ns) := by unfold emptyQ; rw [if_pos (.inr hbig)]
      rw [this]
      have hd : decide (level < 0) = false := by simpa using hneg
      go_enter Try.func27, Try.ntmps27
      go_wp2
      go_ret2
      exact TwoPost.same hS (Fr.refl _ _)
    · obtain ⟨L, rfl⟩ : ∃ L : Nat, level = L := ⟨level.toNat, by omega⟩
      have hL : L ≤ 256 := by omega
      have hSk := hS
      obtain ⟨hgood, nv, lv, mb, hI, rfl⟩ := hS
      obtain ⟨na, nc, rfl, hx1⟩ := owns_form hI.nodes
      have hlen : ns.length ≤ 100000 := hgood.2.2.1
      have hs1 : 2 ≤ s := hgood.1
      have hs2 : s ≤ 8 := hgood.2.1
      have b0 := heap_eq_cell hI.blk 0
      have b1 := heap_eq_cell hI.blk 1
      have b3 := heap_eq_cell hI.blk 3
      have hE : emptyQ s ns L = if 100000 < ns.length + (L - (climb s ns L 0 0).2) then ((0, 6), ns) else (((grow s (L - (climb s ns L 0 0).2) (climb s ns L 0 0).1 ns).1, 0), (grow s (L - (climb s ns L 0 0).2) (climb s ns L 0 0).1 ns).2) := by
        unfold emptyQ; rw [if_neg (by omega)]; rfl
      have HE := Lib.hid hE
      have HI := Lib.hid hI
      have Hlen := Lib.hid hlen
      clear hx1 hE hI hlen
      have hlen2 : ns.length ≤ 1048576 := by have := Hlen.out; omega
      go_enter Try.func27, Try.ntmps27
      go_wp2
      go_loop [6, 7] (fun x y => ∃ (id : Int) (n : Nat), x = .int .i64 id ∧ y = .int .i64 n ∧ n ≤ L ∧ climb s ns (L - n) id n = climb s ns L 0 0) (fun _ y => L - (intOf y).toNat)
      case atStart => exact ⟨0, 0, rfl, rfl, by omega, by simp⟩
      case round =>
        obtain ⟨id, n, rfl, rfl, hn, hc⟩ := hrel
        have Hc := Lib.hid hc
        clear hc
        by_cases hlt : n < L
        · cases hfind : ns.idxOf? (four id) with
          | some i =>
            go_wp2_with (at_lookup; refine wpList_lookup_hit (f := kv) (g := Value.int .i64) (k := four id) (z := .int .i64 0) rfl rfl rfl rfl (HI.out.known) Try.underlying66 keys4 (zero_int _) (find_hit hfind) ?_)
            go_round
            case rel => exact ⟨s + i, n + 1, rfl, by go_num, by omega, by rw [← Hc.out, show L - n = (L - (n + 1)) + 1 by omega, climb, hfind]⟩
            case measure => simp [intOf]; omega
          | none =>
            have hp : climb s ns L 0 0 = (id, n) := by rw [← Hc.out, show L - n = (L - (n + 1)) + 1 by omega, climb, hfind]
            have HP := Lib.hid hp
            clear hp
            by_cases hfull : 100000 < ns.length + (L - n)
            · have hd2 : (100000 : Int) - (↑L - ↑n) < ns.length := by omega
              have Hfull := Lib.hid hfull
              clear hfull
              go_wp2_with (at_lookup; refine wpList_lookup_miss (f := kv) (g := Value.int .i64) (k := four id) (z := .int .i64 0) rfl rfl rfl rfl (HI.out.known) Try.underlying66 keys4 (zero_int _) (find_miss hfind) ?_)
              go_ret2
              have hQ := HE.out
              rw [HP.out] at hQ
              rw [if_pos Hfull.out] at hQ
              rw [hQ]
              exact TwoPost.same hSk (by (repeat (first | exact Fr.refl _ _ | assumption | apply Fr.drewN | apply Fr.drew | apply Fr.alloc | refine Fr.setCell ?_ (Or.inr (by simp; try omega)) _)))
            · have hd2 : (ns.length : Int) ≤ 100000 - (↑L - ↑n) := by omega
              have Hfull := Lib.hid hfull
              clear hfull
              have hQ := HE.out
              rw [HP.out] at hQ
              rw [if_neg Hfull.out] at hQ
              have HQ := Lib.hid hQ
              clear hQ
              go_wp2_with (at_lookup; refine wpList_lookup_miss (f := kv) (g := Value.int .i64) (k := four id) (z := .int .i64 0) rfl rfl rfl rfl (HI.out.known) Try.underlying66 keys4 (zero_int _) (find_miss hfind) ?_)
              go_loopw [6, 7] (fun x y wr => ∃ (id' : Int) (n' : Nat) (ns' : List K4) (F' : List Nat), x = .int .i64 id' ∧ y = .int .i64 n' ∧ n' ≤ L ∧ grow s (L - n') id' ns' = grow s (L - n) id ns ∧ StoreAt wr b s ns' F' ∧
                Fr (foot b (.slice na ns.length nc) lv mb) w wr ∧ (∀ x ∈ F', x ∈ foot b (.slice na ns.length nc) lv mb ∨ w.heap.size ≤ x)) (fun _ y _ => L - (intOf y).toNat)
              case atStart => exact ⟨id, n, ns, _, rfl, rfl, hn, rfl, hSk, Fr.refl _ _, fun x hx => .inl hx⟩
              case round =>
                obtain ⟨id', n', ns', F', rfl, rfl, hn', hg, hS', hf', hF'⟩ := hrel
                have Hg := Lib.hid hg
                have Hf := Lib.hid hf'
                have HF := Lib.hid hF'
                clear hg hf' hF'
                by_cases hlt' : n' < L
                · have hJ : Calls Try.prog 46 #[.pointer (some ⟨b, 0, none⟩), .int .i64 id', .int .i64 id', .int .i64 id', .int .i64 id'] wr (JoinPost wr b s ns' F' (four id')) := Join_calls hS' (four id')
                  have hgs : grow s (L - n') id' ns' = grow s (L - (n' + 1)) (join s ns' (four id')).1.1 (join s ns' (four id')).2 := by
                    rw [show L - n' = (L - (n' + 1)) + 1 by omega]; rfl
                  have Hgs := Lib.hid hgs
                  clear hgs
                  go_wp2_with fail
                  refine hJ.mono ?_
                  rintro e w1 ⟨rfl, F2, hS2, hf2, hF2⟩
                  clear hJ
                  have Hf2 := Lib.hid hf2
                  have HF2 := Lib.hid hF2
                  clear hf2 hF2
                  go_wp2
                  go_roundw
                  case rel =>
                    refine ⟨_, n' + 1, (join s ns' (four id')).2, F2, rfl, by go_num, by omega, Hgs.out.symm.trans Hg.out, hS2, Hf.out.trans Hf2.out HF.out, fun x hx => ?_⟩
                    rcases HF2.out x hx with h | h
                    · exact HF.out x h
                    · right; have := Hf.out.size; omega
                  case measure => simp [intOf]; omega
                · obtain rfl : n' = L := by omega
                  go_wp2
                  go_ret2
                  have hg0 := Hg.out
                  rw [show grow s (n' - n') id' ns' = (id', ns') from by rw [Nat.sub_self]; rfl] at hg0
                  rw [HQ.out, ← hg0]
                  exact ⟨rfl, F', hS', Hf.out, HF.out⟩
        · obtain rfl : n = L := by omega
          have hp : climb s ns n 0 0 = (id, n) := by rw [← Hc.out, Nat.sub_self, climb]
          have HP := Lib.hid hp
          clear hp
          by_cases hfull : 100000 < ns.length + (n - n)
          · have hd2 : (100000 : Int) - (↑n - ↑n) < ns.length := by omega
            have Hfull := Lib.hid hfull
            clear hfull
            go_wp2
            go_ret2
            have hQ := HE.out
            rw [HP.out] at hQ
            rw [if_pos Hfull.out] at hQ
            rw [hQ]
            exact TwoPost.same hSk (by (repeat (first | exact Fr.refl _ _ | assumption | apply Fr.drewN | apply Fr.drew | apply Fr.alloc | refine Fr.setCell ?_ (Or.inr (by simp; try omega)) _)))
          · have hd2 : (ns.length : Int) ≤ 100000 - (↑n - ↑n) := by omega
            have Hfull := Lib.hid hfull
            clear hfull
            have hQ := HE.out
            rw [HP.out] at hQ
            rw [if_neg Hfull.out] at hQ
            have HQ := Lib.hid hQ
            clear hQ
            go_wp2
            go_loopw [6, 7] (fun x y wr => ∃ (id' : Int) (n' : Nat) (ns' : List K4) (F' : List Nat), x = .int .i64 id' ∧ y = .int .i64 n' ∧ n' ≤ n ∧ grow s (n - n') id' ns' = grow s (n - n) id ns ∧ StoreAt wr b s ns' F' ∧
              Fr (foot b (.slice na ns.length nc) lv mb) w wr ∧ (∀ x ∈ F', x ∈ foot b (.slice na ns.length nc) lv mb ∨ w.heap.size ≤ x)) (fun _ y _ => n - (intOf y).toNat)
            case atStart => exact ⟨id, n, ns, _, rfl, rfl, hn, rfl, hSk, Fr.refl _ _, fun x hx => .inl hx⟩
            case round =>
              obtain ⟨id', n', ns', F', rfl, rfl, hn', hg, hS', hf', hF'⟩ := hrel
              have Hg := Lib.hid hg
              have Hf := Lib.hid hf'
              have HF := Lib.hid hF'
              clear hg hf' hF'
              by_cases hlt' : n' < n
              · have hJ : Calls Try.prog 46 #[.pointer (some ⟨b, 0, none⟩), .int .i64 id', .int .i64 id', .int .i64 id', .int .i64 id'] wr (JoinPost wr b s ns' F' (four id')) := Join_calls hS' (four id')
                have hgs : grow s (n - n') id' ns' = grow s (n - (n' + 1)) (join s ns' (four id')).1.1 (join s ns' (four id')).2 := by
                  rw [show n - n' = (n - (n' + 1)) + 1 by omega]; rfl
                have Hgs := Lib.hid hgs
                clear hgs
                go_wp2_with fail
                refine hJ.mono ?_
                rintro e w1 ⟨rfl, F2, hS2, hf2, hF2⟩
                clear hJ
                have Hf2 := Lib.hid hf2
                have HF2 := Lib.hid hF2
                clear hf2 hF2
                go_wp2
                go_roundw
                case rel =>
                  refine ⟨_, n' + 1, (join s ns' (four id')).2, F2, rfl, by go_num, by omega, Hgs.out.symm.trans Hg.out, hS2, Hf.out.trans Hf2.out HF.out, fun x hx => ?_⟩
                  rcases HF2.out x hx with h | h
                  · exact HF.out x h
                  · right; have := Hf.out.size; omega
                case measure => simp [intOf]; omega
              · obtain rfl : n' = n := by omega
                go_wp2
                go_ret2
                have hg0 := Hg.out
                rw [show grow s (n' - n') id' ns' = (id', ns') from by rw [Nat.sub_self]; rfl] at hg0
                rw [HQ.out, ← hg0]
                exact ⟨rfl, F', hS', Hf.out, HF.out⟩
end Go.Proofs.Ytdanghnadbkhfaa
end

section
/- Contents of quadtree stores: kids, levels, trees. Nothing of a program. -/
namespace Go.Proofs.Qs
set_option linter.unusedVariables false
set_option linter.unusedSimpArgs false
theorem lvl_kn {s : Int} {ls : List Int} {id : Int} (_ : 0 ≤ s) (h : 0 ≤ lvl s ls id) : 0 ≤ id ∧ id < s + ls.length := by
  unfold lvl at h
  by_cases h1 : id < 0
  · rw [if_pos h1] at h; omega
  · rw [if_neg h1] at h
    by_cases h2 : id < s
    · omega
    · rw [if_neg h2] at h
      by_cases h3 : id < s + ls.length
      · omega
      · rw [List.getD_eq_getElem?_getD, List.getElem?_eq_none (by omega)] at h
        simp at h
theorem lvl_tk {s : Int} {ns : List K4} {i : Nat} {id : Int} (h : id < s + i) : lvl s (levs s (ns.take i)) id = lvl s (levs s ns) id := by
  unfold lvl
  by_cases h1 : id < 0
  · rw [if_pos h1, if_pos h1]
  · rw [if_neg h1, if_neg h1]
    by_cases h2 : id < s
    · rw [if_pos h2, if_pos h2]
    · rw [if_neg h2, if_neg h2, ← levs_take, List.getD_eq_getElem?_getD, List.getD_eq_getElem?_getD, List.getElem?_take, if_pos (by omega)]
/-- the kids of a node of a good content are known, below it, of one level, which is one less -/
theorem good_kids {s : Int} {ns : List K4} (h : GoodQ s ns) {i : Nat} {k : K4} (hk : ns[i]? = some k) :
    (0 ≤ k.a ∧ k.a < s + i) ∧ (0 ≤ k.b ∧ k.b < s + i) ∧ (0 ≤ k.c ∧ k.c < s + i) ∧ (0 ≤ k.d ∧ k.d < s + i) := by
  have hs : 0 ≤ s := by have := h.1; omega
  have hi := (List.getElem?_eq_some_iff.1 hk).1
  obtain ⟨h0, h1, h2, h3, h4⟩ := h.2.2.2.2 i k hk
  have hl : (levs s (ns.take i)).length = i := by rw [levs_length, List.length_take]; omega
  have ka := lvl_kn hs h0
  have kb := lvl_kn hs (by rw [h2]; exact h0)
  have kc := lvl_kn hs (by rw [h3]; exact h0)
  have kd := lvl_kn hs (by rw [h4]; exact h0)
  rw [hl] at ka kb kc kd
  exact ⟨ka, kb, kc, kd⟩
theorem good_lvl {s : Int} {ns : List K4} (h : GoodQ s ns) {i : Nat} {k : K4} (hk : ns[i]? = some k) :
    lvl s (levs s ns) (s + i) = lvl s (levs s ns) k.a + 1 ∧ 0 ≤ lvl s (levs s ns) k.a ∧ lvl s (levs s ns) k.a < 256 ∧ lvl s (levs s ns) k.b = lvl s (levs s ns) k.a ∧ lvl s (levs s ns) k.c = lvl s (levs s ns) k.a ∧ lvl s (levs s ns) k.d = lvl s (levs s ns) k.a := by
  have hs := h.1
  have hi := (List.getElem?_eq_some_iff.1 hk).1
  obtain ⟨⟨_, ka⟩, ⟨_, kb⟩, ⟨_, kc⟩, ⟨_, kd⟩⟩ := good_kids h hk
  obtain ⟨h0, h1, h2, h3, h4⟩ := h.2.2.2.2 i k hk
  rw [lvl_tk ka] at h0 h1 h2 h3 h4
  rw [lvl_tk kb] at h2
  rw [lvl_tk kc] at h3
  rw [lvl_tk kd] at h4
  refine ⟨?_, h0, h1, h2, h3, h4⟩
  have e : (levs s ns)[i]? = some (lvl s (levs s (ns.take i)) k.a + 1) := by
    have h5 : levs s (ns.take (i + 1)) = levs s (ns.take i) ++ [lvl s (levs s (ns.take i)) k.a + 1] := by
      rw [List.take_add_one, hk]; exact levs_snoc s _ k
    have h6 := congrArg (fun l : List Int => l[i]?) h5
    rw [← levs_take, List.getElem?_take, if_pos (by omega), List.getElem?_append_right (by rw [levs_length, List.length_take]; omega), levs_length, List.length_take, Nat.min_eq_left (by omega), Nat.sub_self] at h6
    exact h6
  rw [lvl_tk ka] at e
  show (if s + (i : Int) < 0 then -1 else if s + (i : Int) < s then 0 else (levs s ns).getD (s + (i : Int) - s).toNat (-1)) = _
  rw [if_neg (by omega), if_neg (by omega), show (s + (i : Int) - s).toNat = i by omega, List.getD_eq_getElem?_getD, e]; rfl
/-! ### The cells of a node, as a tree -/
inductive Tr where
  | leaf (n : Int)
  | node (a b c d : Tr)
  deriving DecidableEq
def tget (s : Int) (l : List Tr) (id : Int) : Tr := if id < s then .leaf id else l.getD (id - s).toNat (.leaf 0)
def trs (s : Int) (ns : List K4) : List Tr := ns.foldl (fun l k => l ++ [.node (tget s l k.a) (tget s l k.b) (tget s l k.c) (tget s l k.d)]) []
theorem trs_snoc (s : Int) (ns : List K4) (k : K4) : trs s (ns ++ [k]) = trs s ns ++ [.node (tget s (trs s ns) k.a) (tget s (trs s ns) k.b) (tget s (trs s ns) k.c) (tget s (trs s ns) k.d)] := by simp [trs]
theorem trs_length (s : Int) (ns : List K4) : (trs s ns).length = ns.length := by
  rcases List.eq_nil_or_concat ns with rfl | ⟨l, x, rfl⟩
  · rfl
  · rw [List.concat_eq_append, trs_snoc]
    simp [trs_length s l]
termination_by ns.length
decreasing_by simp_all
theorem trs_take (s : Int) (ns : List K4) : ∀ i, (trs s ns).take i = trs s (ns.take i) := by
  intro i
  rcases List.eq_nil_or_concat ns with rfl | ⟨l, x, rfl⟩
  · simp [trs]
  · rw [List.concat_eq_append, trs_snoc]
    rcases Nat.lt_or_ge l.length i with h | h
    · rw [List.take_of_length_le (by simp [trs_length]; omega), List.take_of_length_le (by simp; omega), trs_snoc]
    · rw [List.take_append_of_le_length (by simp [trs_length]; omega), List.take_append_of_le_length h, trs_take s l i]
termination_by ns.length
decreasing_by simp_all
/-- the tree of a number -/
def tr (s : Int) (ns : List K4) (id : Int) : Tr := tget s (trs s ns) id
theorem tr_tk {s : Int} {ns : List K4} {i : Nat} {id : Int} (h : id < s + i) : tr s (ns.take i) id = tr s ns id := by
  unfold tr tget
  by_cases h2 : id < s
  · rw [if_pos h2, if_pos h2]
  · rw [if_neg h2, if_neg h2, ← trs_take, List.getD_eq_getElem?_getD, List.getD_eq_getElem?_getD, List.getElem?_take, if_pos (by omega)]
theorem tr_app {s : Int} {ns ms : List K4} {id : Int} (h : id < s + ns.length) : tr s (ns ++ ms) id = tr s ns id := by
  have := tr_tk (s := s) (ns := ns ++ ms) (i := ns.length) h
  rw [List.take_left'] at this
  · exact this.symm
  · rfl
theorem tr_leaf {s : Int} {ns : List K4} {id : Int} (h : id < s) : tr s ns id = .leaf id := by unfold tr tget; rw [if_pos h]
theorem tr_node {s : Int} {ns : List K4} (h : GoodQ s ns) {i : Nat} {k : K4} (hk : ns[i]? = some k) : tr s ns (s + i) = .node (tr s ns k.a) (tr s ns k.b) (tr s ns k.c) (tr s ns k.d) := by
  have hi := (List.getElem?_eq_some_iff.1 hk).1
  obtain ⟨⟨_, ka⟩, ⟨_, kb⟩, ⟨_, kc⟩, ⟨_, kd⟩⟩ := good_kids h hk
  have e : (trs s ns)[i]? = some (.node (tr s (ns.take i) k.a) (tr s (ns.take i) k.b) (tr s (ns.take i) k.c) (tr s (ns.take i) k.d)) := by
    have h5 : trs s (ns.take (i + 1)) = trs s (ns.take i) ++ [.node (tr s (ns.take i) k.a) (tr s (ns.take i) k.b) (tr s (ns.take i) k.c) (tr s (ns.take i) k.d)] := by
      rw [List.take_add_one, hk]; exact trs_snoc s _ k
    have h6 := congrArg (fun l : List Tr => l[i]?) h5
    rw [← trs_take, List.getElem?_take, if_pos (by omega), List.getElem?_append_right (by rw [trs_length, List.length_take]; omega), trs_length, List.length_take, Nat.min_eq_left (by omega), Nat.sub_self] at h6
    exact h6
  rw [tr_tk ka, tr_tk kb, tr_tk kc, tr_tk kd] at e
  show (if s + (i : Int) < s then Tr.leaf _ else (trs s ns).getD (s + (i : Int) - s).toNat _) = _
  rw [if_neg (by omega), show (s + (i : Int) - s).toNat = i by omega, List.getD_eq_getElem?_getD, e]; rfl
/-- is a number known? -/
def Kn (s : Int) (ns : List K4) (id : Int) : Prop := 0 ≤ id ∧ id < s + ns.length
instance (s : Int) (ns : List K4) (id : Int) : Decidable (Kn s ns id) := by unfold Kn; exact inferInstance
theorem Kn.cases {s : Int} {ns : List K4} {id : Int} (h : Kn s ns id) : (0 ≤ id ∧ id < s) ∨ ∃ i k, id = s + (i : Nat) ∧ ns[i]? = some k := by
  by_cases h1 : id < s
  · exact .inl ⟨h.1, h1⟩
  · right
    have := h.2
    exact ⟨(id - s).toNat, ns[(id - s).toNat]'(by omega), by omega, List.getElem?_eq_getElem _⟩
/-- equal trees in one content are one number -/
theorem tr_inj {s : Int} {ns : List K4} (h : GoodQ s ns) : ∀ (n : Nat) {x y : Int}, x < s + n → Kn s ns x → Kn s ns y → tr s ns x = tr s ns y → x = y
  | 0, x, y, hx, kx, ky, he => by
    rw [tr_leaf (by omega)] at he
    rcases ky.cases with ⟨_, hy⟩ | ⟨j, k, rfl, hk⟩
    · rw [tr_leaf hy] at he; cases he; rfl
    · rw [tr_node h hk] at he; cases he
  | n + 1, x, y, hx, kx, ky, he => by
    rcases kx.cases with ⟨_, hxs⟩ | ⟨i, k, rfl, hk⟩
    · exact tr_inj h n (by omega) kx ky he
    · rcases ky.cases with ⟨_, hy⟩ | ⟨j, l, rfl, hl⟩
      · rw [tr_leaf hy, tr_node h hk] at he; cases he
      · rw [tr_node h hk, tr_node h hl] at he
        injection he with e1 e2 e3 e4
        obtain ⟨a1, b1, c1, d1⟩ := good_kids h hk
        obtain ⟨a2, b2, c2, d2⟩ := good_kids h hl
        have hi := (List.getElem?_eq_some_iff.1 hk).1
        have hj := (List.getElem?_eq_some_iff.1 hl).1
        have f1 := tr_inj h n (by omega) ⟨a1.1, by omega⟩ ⟨a2.1, by omega⟩ e1
        have f2 := tr_inj h n (by omega) ⟨b1.1, by omega⟩ ⟨b2.1, by omega⟩ e2
        have f3 := tr_inj h n (by omega) ⟨c1.1, by omega⟩ ⟨c2.1, by omega⟩ e3
        have f4 := tr_inj h n (by omega) ⟨d1.1, by omega⟩ ⟨d2.1, by omega⟩ e4
        have hkl : k = l := by
          cases k; cases l
          simp only at f1 f2 f3 f4
          rw [f1, f2, f3, f4]
        subst hkl
        have := (List.getElem?_inj hi h.2.2.2.1).1 (hk.trans hl.symm)
        omega
/-- equal trees: the numbers' levels are equal -/
def Tr.ht : Tr → Nat
  | .leaf _ => 0
  | .node a _ _ _ => a.ht + 1
theorem lvl_ht {s : Int} {ns : List K4} (h : GoodQ s ns) : ∀ (n : Nat) {x : Int}, x < s + n → Kn s ns x → lvl s (levs s ns) x = (tr s ns x).ht
  | 0, x, hx, kx => by
    rw [tr_leaf (by omega)]
    unfold lvl
    rw [if_neg (by have := kx.1; omega), if_pos (by omega)]; rfl
  | n + 1, x, hx, kx => by
    rcases kx.cases with ⟨h0, hxs⟩ | ⟨i, k, rfl, hk⟩
    · rw [tr_leaf hxs]
      unfold lvl
      rw [if_neg (by omega), if_pos hxs]; rfl
    · obtain ⟨a1, _⟩ := good_kids h hk
      have hi := (List.getElem?_eq_some_iff.1 hk).1
      rw [tr_node h hk, (good_lvl h hk).1, lvl_ht h n (by omega) ⟨a1.1, by omega⟩]
      show _ = (((tr s ns k.a).ht + 1 : Nat) : Int)
      omega
theorem lvl_of_tr {s t : Int} {ns ms : List K4} (h : GoodQ s ns) (h' : GoodQ t ms) {x y : Int} (kx : Kn s ns x) (ky : Kn t ms y) (he : tr s ns x = tr t ms y) : lvl s (levs s ns) x = lvl t (levs t ms) y := by
  rw [lvl_ht h ns.length (by have := kx.2; omega) kx, lvl_ht h' ms.length (by have := ky.2; omega) ky, he]
theorem kn_lvl {s : Int} {ns : List K4} (h : GoodQ s ns) (id : Int) : 0 ≤ lvl s (levs s ns) id ↔ Kn s ns id := by
  constructor
  · intro hl
    have := lvl_kn (by have := h.1; omega) hl
    rwa [levs_length] at this
  · intro hk
    rw [lvl_ht h ns.length (by have := hk.2; omega) hk]; omega
end Go.Proofs.Qs
end

section
/- Evolving squares: hashlife on trees. Nothing of a program. -/
namespace Go.Proofs.Ev
open Go.Proofs.Qs
set_option linter.unusedVariables false
set_option linter.unusedSimpArgs false
abbrev Fld := Int → Int → Int
def p2 (n : Nat) : Int := ((2 ^ n : Nat) : Int)
theorem p2_succ (n : Nat) : p2 (n + 1) = p2 n + p2 n := by unfold p2; rw [Nat.pow_succ]; omega
theorem p2_pos (n : Nat) : 0 < p2 n := by unfold p2; have := Nat.pow_pos (n := n) (show 0 < 2 by omega); omega
theorem p2_zero : p2 0 = 1 := rfl
/-- the tree of height n of a field, from a corner on -/
def mk : Nat → Fld → Int → Int → Tr
  | 0, F, x, y => .leaf (F x y)
  | n + 1, F, x, y => .node (mk n F x y) (mk n F (x + p2 n) y) (mk n F x (y + p2 n)) (mk n F (x + p2 n) (y + p2 n))
/-- is a tree whole, of a height? -/
def Full : Nat → Tr → Prop
  | 0, .leaf _ => True
  | n + 1, .node a b c d => Full n a ∧ Full n b ∧ Full n c ∧ Full n d
  | _, _ => False
def cell : Nat → Tr → Fld
  | 0, .leaf v => fun _ _ => v
  | n + 1, .node a b c d => fun x y => if y < p2 n then (if x < p2 n then cell n a x y else cell n b (x - p2 n) y) else (if x < p2 n then cell n c x (y - p2 n) else cell n d (x - p2 n) (y - p2 n))
  | _, _ => fun _ _ => 0
theorem mk_full : ∀ (n : Nat) (F : Fld) (x y : Int), Full n (mk n F x y)
  | 0, F, x, y => trivial
  | n + 1, F, x, y => ⟨mk_full n _ _ _, mk_full n _ _ _, mk_full n _ _ _, mk_full n _ _ _⟩
theorem mk_congr : ∀ (n : Nat) {F G : Fld} {x y u v : Int}, (∀ i j, 0 ≤ i → i < p2 n → 0 ≤ j → j < p2 n → F (x + i) (y + j) = G (u + i) (v + j)) → mk n F x y = mk n G u v
  | 0, F, G, x, y, u, v, h => by
    have := h 0 0 (by omega) (by rw [p2_zero]; omega) (by omega) (by rw [p2_zero]; omega)
    simp only [Int.add_zero] at this
    show Tr.leaf _ = Tr.leaf _
    rw [this]
  | n + 1, F, G, x, y, u, v, h => by
    have hp := p2_succ n
    have hq := p2_pos n
    show Tr.node _ _ _ _ = Tr.node _ _ _ _
    rw [mk_congr n (F := F) (G := G) (x := x) (y := y) (u := u) (v := v) fun i j a b c d => h i j a (by omega) c (by omega),
      mk_congr n (F := F) (G := G) (x := x + p2 n) (y := y) (u := u + p2 n) (v := v) fun i j a b c d => by rw [Int.add_assoc, Int.add_assoc]; exact h _ j (by omega) (by omega) c (by omega),
      mk_congr n (F := F) (G := G) (x := x) (y := y + p2 n) (u := u) (v := v + p2 n) fun i j a b c d => by rw [Int.add_assoc y, Int.add_assoc v]; exact h i _ a (by omega) (by omega) (by omega),
      mk_congr n (F := F) (G := G) (x := x + p2 n) (y := y + p2 n) (u := u + p2 n) (v := v + p2 n) fun i j a b c d => by rw [Int.add_assoc x, Int.add_assoc u, Int.add_assoc y, Int.add_assoc v]; exact h _ _ (by omega) (by omega) (by omega) (by omega)]
theorem cell_mk : ∀ (n : Nat) {F : Fld} {x y i j : Int}, 0 ≤ i → i < p2 n → 0 ≤ j → j < p2 n → cell n (mk n F x y) i j = F (x + i) (y + j)
  | 0, F, x, y, i, j, a, b, c, d => by
    rw [p2_zero] at b d
    obtain rfl : i = 0 := by omega
    obtain rfl : j = 0 := by omega
    simp [mk, cell]
  | n + 1, F, x, y, i, j, a, b, c, d => by
    have hp := p2_succ n
    show (if j < p2 n then (if i < p2 n then _ else _) else _) = _
    split
    · split
      · exact cell_mk n a (by omega) c (by omega)
      · rw [cell_mk n (by omega) (by omega) c (by omega)]; congr 1; omega
    · split
      · rw [cell_mk n a (by omega) (by omega) (by omega)]; congr 1; omega
      · rw [cell_mk n (by omega) (by omega) (by omega) (by omega)]; congr 1 <;> omega
theorem mk_cell : ∀ (n : Nat) {t : Tr}, Full n t → mk n (cell n t) 0 0 = t
  | 0, .leaf v, _ => rfl
  | 0, .node _ _ _ _, h => h.elim
  | n + 1, .leaf _, h => h.elim
  | n + 1, .node a b c d, h => by
    obtain ⟨ha, hb, hc, hd⟩ := h
    have hq := p2_pos n
    show Tr.node _ _ _ _ = _
    have k1 : mk n (cell (n + 1) (.node a b c d)) 0 0 = mk n (cell n a) 0 0 := mk_congr n fun i j h1 h2 h3 h4 => by
      show (if 0 + j < p2 n then (if 0 + i < p2 n then _ else _) else _) = _
      rw [if_pos (by omega), if_pos (by omega)]
    have k2 : mk n (cell (n + 1) (.node a b c d)) (0 + p2 n) 0 = mk n (cell n b) 0 0 := mk_congr n fun i j h1 h2 h3 h4 => by
      show (if 0 + j < p2 n then (if 0 + p2 n + i < p2 n then _ else _) else _) = _
      rw [if_pos (by omega), if_neg (by omega)]; congr 1; omega
    have k3 : mk n (cell (n + 1) (.node a b c d)) 0 (0 + p2 n) = mk n (cell n c) 0 0 := mk_congr n fun i j h1 h2 h3 h4 => by
      show (if 0 + p2 n + j < p2 n then _ else (if 0 + i < p2 n then _ else _)) = _
      rw [if_neg (by omega), if_pos (by omega)]; congr 1; omega
    have k4 : mk n (cell (n + 1) (.node a b c d)) (0 + p2 n) (0 + p2 n) = mk n (cell n d) 0 0 := mk_congr n fun i j h1 h2 h3 h4 => by
      show (if 0 + p2 n + j < p2 n then _ else (if 0 + p2 n + i < p2 n then _ else _)) = _
      rw [if_neg (by omega), if_neg (by omega)]; congr 1 <;> omega
    rw [k1, k2, k3, k4, mk_cell n ha, mk_cell n hb, mk_cell n hc, mk_cell n hd]
theorem full_ht : ∀ (n : Nat) {t : Tr}, Full n t → t.ht = n
  | 0, .leaf v, _ => rfl
  | 0, .node _ _ _ _, h => h.elim
  | n + 1, .leaf _, h => h.elim
  | n + 1, .node a b c d, h => by show a.ht + 1 = n + 1; rw [full_ht n h.1]
/-! ### Generations -/
/-- a rule whose cells' new states come from states at most r away -/
def Local (r : Int) (g : Fld → Fld) : Prop := ∀ {F H : Fld} {x y u v : Int}, (∀ i j, -r ≤ i → i ≤ r → -r ≤ j → j ≤ r → F (x + i) (y + j) = H (u + i) (v + j)) → g F x y = g H u v
def it (g : Fld → Fld) : Nat → Fld → Fld
  | 0, F => F
  | n + 1, F => g (it g n F)
theorem it_add (g : Fld → Fld) (a b : Nat) (F : Fld) : it g (a + b) F = it g a (it g b F) := by
  induction a with
  | zero => rw [Nat.zero_add]; rfl
  | succ a ih => rw [Nat.add_right_comm, it, ih]; rfl
/-- fields that agree on a square evolve alike, but for a margin -/
theorem it_local {r : Int} {g : Fld → Fld} (hg : Local r g) {F H : Fld} {x y u v L : Int} (h : ∀ i j, 0 ≤ i → i < L → 0 ≤ j → j < L → F (x + i) (y + j) = H (u + i) (v + j)) : ∀ (m : Nat) {i j : Int}, r * m ≤ i → i < L - r * m → r * m ≤ j → j < L - r * m → it g m F (x + i) (y + j) = it g m H (u + i) (v + j)
  | 0, i, j, a, b, c, d => by
    simp only [Int.natCast_zero, Int.mul_zero, Int.sub_zero] at a b c d
    exact h i j a b c d
  | m + 1, i, j, a, b, c, d => by
    have e : r * ((m + 1 : Nat) : Int) = r * m + r := by rw [Int.natCast_add, Int.mul_add]; simp
    rw [e] at a b c d
    refine hg fun p q a1 a2 a3 a4 => ?_
    rw [Int.add_assoc, Int.add_assoc, Int.add_assoc, Int.add_assoc]
    exact it_local hg h m (by omega) (by omega) (by omega) (by omega)
/-- the centre of a tree after 2 to the power k generations -/
def stp (g : Fld → Fld) (n k : Nat) (t : Tr) : Tr := mk (n - 1) (it g (2 ^ k) (cell n t)) (p2 (n - 2)) (p2 (n - 2))
theorem p2_le {m n : Nat} (h : m ≤ n) : p2 m ≤ p2 n := by unfold p2; exact Int.ofNat_le.2 (Nat.pow_le_pow_right (by omega) h)
theorem stp_mk {r : Int} {g : Fld → Fld} (hg : Local r g) {n k : Nat} (hn : 2 ≤ n) (hr : r * p2 k ≤ p2 (n - 2)) (F : Fld) (x y : Int) :
    stp g n k (mk n F x y) = mk (n - 1) (it g (2 ^ k) F) (x + p2 (n - 2)) (y + p2 (n - 2)) := by
  obtain ⟨n, rfl⟩ : ∃ m, n = m + 2 := ⟨n - 2, by omega⟩
  simp only [Nat.add_sub_cancel] at hr ⊢
  unfold stp
  have e1 := p2_succ n
  have e2 := p2_succ (n + 1)
  refine mk_congr _ fun i j a b c d => ?_
  rw [show n + 2 - 1 = n + 1 from rfl] at b d
  rw [Int.add_assoc x, Int.add_assoc y]
  have := it_local hg (F := cell (n + 2) (mk (n + 2) F x y)) (H := F) (x := 0) (y := 0) (u := x) (v := y) (L := p2 (n + 2)) (fun i j a b c d => by rw [Int.zero_add, Int.zero_add]; exact cell_mk _ a b c d) (2 ^ k) (i := p2 n + i) (j := p2 n + j)
    (by show r * p2 k ≤ _; omega) (by show _ < _ - r * p2 k; rw [show n + 2 = n + 1 + 1 from rfl, e2]; omega) (by show r * p2 k ≤ _; omega) (by show _ < _ - r * p2 k; rw [show n + 2 = n + 1 + 1 from rfl, e2]; omega)
  rw [Int.zero_add, Int.zero_add] at this
  exact this
/-! ### Parts of a tree -/
def Tr.q : Tr → Nat → Tr
  | .node a _ _ _, 0 => a
  | .node _ b _ _, 1 => b
  | .node _ _ c _, 2 => c
  | .node _ _ _ d, _ + 3 => d
  | .leaf v, _ => .leaf v
/-- the sixteen grandkids, by row and column -/
def g16 (t : Tr) (y x : Nat) : Tr := Tr.q (Tr.q t (2 * (y / 2) + x / 2)) (2 * (y % 2) + x % 2)
/-- four trees of a table, the first of which stands in a row and a column -/
def four4 (f : Nat → Nat → Tr) (y x : Nat) : Tr := .node (f y x) (f y (x + 1)) (f (y + 1) x) (f (y + 1) (x + 1))
def ctr (t : Tr) : Tr := .node (Tr.q (Tr.q t 0) 3) (Tr.q (Tr.q t 1) 2) (Tr.q (Tr.q t 2) 1) (Tr.q (Tr.q t 3) 0)
theorem g16_mk (n : Nat) (F : Fld) (x y : Int) {i j : Nat} (hi : i < 4) (hj : j < 4) : g16 (mk (n + 2) F x y) i j = mk n F (x + j * p2 n) (y + i * p2 n) := by
  have e := p2_succ n
  have key : ∀ (a b c d : Int), a = c → b = d → mk n F a b = mk n F c d := by rintro a b c d rfl rfl; rfl
  match i, hi, j, hj with
  | 0, _, 0, _ | 0, _, 1, _ | 0, _, 2, _ | 0, _, 3, _ | 1, _, 0, _ | 1, _, 1, _ | 1, _, 2, _ | 1, _, 3, _ | 2, _, 0, _ | 2, _, 1, _ | 2, _, 2, _ | 2, _, 3, _ | 3, _, 0, _ | 3, _, 1, _ | 3, _, 2, _ | 3, _, 3, _ =>
    refine key _ _ _ _ ?_ ?_ <;> (try simp only [e]) <;> (try simp) <;> (try omega)
theorem four_mk {n : Nat} {F : Fld} {f : Nat → Nat → Tr} {a b : Int} {i j : Nat} (h : ∀ u v, u ≤ 1 → v ≤ 1 → f (i + u) (j + v) = mk n F (a + v * p2 n) (b + u * p2 n)) : four4 f i j = mk (n + 1) F a b := by
  have h00 := h 0 0 (by omega) (by omega)
  have h01 := h 0 1 (by omega) (by omega)
  have h10 := h 1 0 (by omega) (by omega)
  have h11 := h 1 1 (by omega) (by omega)
  simp only [Nat.add_zero, Int.natCast_zero, Int.zero_mul, Int.add_zero, Int.natCast_one, Int.one_mul] at h00 h01 h10 h11
  unfold four4
  rw [h00, h01, h10, h11]; rfl
theorem ctr_mk (n : Nat) (F : Fld) (x y : Int) : ctr (mk (n + 2) F x y) = mk (n + 1) F (x + p2 n) (y + p2 n) := by
  have e := p2_succ n
  have key : ∀ (a b c d : Int), a = c → b = d → mk n F a b = mk n F c d := by rintro a b c d rfl rfl; rfl
  show Tr.node (mk n F _ _) (mk n F _ _) (mk n F _ _) (mk n F _ _) = Tr.node (mk n F _ _) (mk n F _ _) (mk n F _ _) (mk n F _ _)
  congr 1 <;> refine key _ _ _ _ ?_ ?_ <;> omega
/-- a nine-part of a tree, and what it leads to: after half of the generations, or its centre -/
def part9 (t : Tr) : Nat → Nat → Tr := four4 (g16 t)
def inner9 (g : Fld → Fld) (n k : Nat) (two : Bool) (t : Tr) (i j : Nat) : Tr := if two then stp g (n - 1) (k - 1) (part9 t i j) else ctr (part9 t i j)
def out4 (g : Fld → Fld) (n k : Nat) (two : Bool) (t : Tr) : Nat → Nat → Tr := four4 (inner9 g n k two t)
def res4 (g : Fld → Fld) (n k : Nat) (two : Bool) (t : Tr) (i j : Nat) : Tr := stp g (n - 1) (if two then k - 1 else k) (out4 g n k two t i j)
/-- HASHLIFE: the four results are the quadrants of the result -/
theorem hash {r : Int} {g : Fld → Fld} (hg : Local r g) {n k : Nat} {two : Bool} {t : Tr} (hn : 3 ≤ n) (ht : Full n t) (h1 : two = true → 1 ≤ k ∧ r * p2 (k - 1) ≤ p2 (n - 3)) (h2 : two = false → r * p2 k ≤ p2 (n - 3)) :
    four4 (res4 g n k two t) 0 0 = stp g n k t := by
  obtain ⟨n, rfl⟩ : ∃ m, n = m + 3 := ⟨n - 3, by omega⟩
  simp only [Nat.add_sub_cancel] at h1 h2
  have e0 := p2_succ n
  have e1 := p2_succ (n + 1)
  obtain ⟨F, rfl⟩ : ∃ F, t = mk (n + 3) F 0 0 := ⟨_, (mk_cell _ ht).symm⟩
  have hp : ∀ i j, i < 3 → j < 3 → part9 (mk (n + 3) F 0 0) i j = mk (n + 2) F (j * p2 (n + 1)) (i * p2 (n + 1)) := by
    intro i j hi hj
    refine four_mk fun u v hu hv => ?_
    rw [g16_mk (n + 1) F 0 0 (by omega) (by omega), Int.zero_add, Int.zero_add, Int.natCast_add, Int.natCast_add, Int.add_mul, Int.add_mul]
  cases two with
  | true =>
    obtain ⟨hk, hr⟩ := h1 rfl
    have hin : ∀ i j, i < 3 → j < 3 → inner9 g (n + 3) k true (mk (n + 3) F 0 0) i j = mk (n + 1) (it g (2 ^ (k - 1)) F) (j * p2 (n + 1) + p2 n) (i * p2 (n + 1) + p2 n) := by
      intro i j hi hj
      show stp g (n + 2) (k - 1) _ = _
      rw [hp i j hi hj, stp_mk hg (by omega) (by exact hr)]; rfl
    have hout : ∀ i j, i < 2 → j < 2 → out4 g (n + 3) k true (mk (n + 3) F 0 0) i j = mk (n + 2) (it g (2 ^ (k - 1)) F) (j * p2 (n + 1) + p2 n) (i * p2 (n + 1) + p2 n) := by
      intro i j hi hj
      refine four_mk fun u v hu hv => ?_
      rw [hin _ _ (by omega) (by omega), Int.natCast_add, Int.natCast_add, Int.add_mul, Int.add_mul]
      congr 1 <;> omega
    have hres : ∀ i j, i < 2 → j < 2 → res4 g (n + 3) k true (mk (n + 3) F 0 0) i j = mk (n + 1) (it g (2 ^ (k - 1)) (it g (2 ^ (k - 1)) F)) (p2 (n + 1) + j * p2 (n + 1)) (p2 (n + 1) + i * p2 (n + 1)) := by
      intro i j hi hj
      show stp g (n + 2) (k - 1) _ = _
      rw [hout i j hi hj, stp_mk hg (by omega) (by exact hr)]
      show mk (n + 1) _ (_ + p2 n) (_ + p2 n) = _
      congr 1 <;> omega
    have e : (2 : Nat) ^ k = 2 ^ (k - 1) + 2 ^ (k - 1) := by
      obtain ⟨m, rfl⟩ : ∃ m, k = m + 1 := ⟨k - 1, by omega⟩
      rw [Nat.pow_succ, Nat.add_sub_cancel]; omega
    have hk2 : r * p2 k ≤ p2 (n + 3 - 2) := by
      have h3 : p2 k = p2 (k - 1) + p2 (k - 1) := by unfold p2; rw [e]; omega
      rw [h3, Int.mul_add]
      show _ ≤ p2 (n + 1)
      omega
    rw [stp_mk hg (by omega) hk2, e, it_add]
    refine (four_mk (n := n + 1) fun u v hu hv => ?_)
    rw [Nat.zero_add, Nat.zero_add, hres u v (by omega) (by omega)]
    show _ = mk (n + 1) _ (0 + p2 (n + 1) + _) (0 + p2 (n + 1) + _)
    rw [Int.zero_add]
  | false =>
    have hr := h2 rfl
    have hin : ∀ i j, i < 3 → j < 3 → inner9 g (n + 3) k false (mk (n + 3) F 0 0) i j = mk (n + 1) F (j * p2 (n + 1) + p2 n) (i * p2 (n + 1) + p2 n) := by
      intro i j hi hj
      show ctr _ = _
      rw [hp i j hi hj, ctr_mk]
    have hout : ∀ i j, i < 2 → j < 2 → out4 g (n + 3) k false (mk (n + 3) F 0 0) i j = mk (n + 2) F (j * p2 (n + 1) + p2 n) (i * p2 (n + 1) + p2 n) := by
      intro i j hi hj
      refine four_mk fun u v hu hv => ?_
      rw [hin _ _ (by omega) (by omega), Int.natCast_add, Int.natCast_add, Int.add_mul, Int.add_mul]
      congr 1 <;> omega
    have hres : ∀ i j, i < 2 → j < 2 → res4 g (n + 3) k false (mk (n + 3) F 0 0) i j = mk (n + 1) (it g (2 ^ k) F) (p2 (n + 1) + j * p2 (n + 1)) (p2 (n + 1) + i * p2 (n + 1)) := by
      intro i j hi hj
      show stp g (n + 2) k _ = _
      rw [hout i j hi hj, stp_mk hg (by omega) (by exact hr)]
      show mk (n + 1) _ (_ + p2 n) (_ + p2 n) = _
      congr 1 <;> omega
    have hk2 : r * p2 k ≤ p2 (n + 3 - 2) := by
      show _ ≤ p2 (n + 1)
      have := p2_pos n
      omega
    rw [stp_mk hg (by omega) hk2]
    refine (four_mk (n := n + 1) fun u v hu hv => ?_)
    rw [Nat.zero_add, Nat.zero_add, hres u v (by omega) (by omega)]
    show _ = mk (n + 1) _ (0 + p2 (n + 1) + _) (0 + p2 (n + 1) + _)
    rw [Int.zero_add]
theorem stp_full (g : Fld → Fld) (n k : Nat) (t : Tr) : Full (n - 1) (stp g n k t) := mk_full _ _ _ _
end Go.Proofs.Ev
end
