/- The reference of layer 25: level, find. -/
import Derived.Test.YtgcompnpjpmanaaQc
namespace Go.Proofs.Ytgcompnpjpmanaa
open Go Go.RowKit Go.Proofs.Rg Go.Proofs.Mp Go.Proofs.Hp Go.Proofs.Qs
/-- a slice value that can be read as n elements with the cells xs -/
def Reads (w : World) (v : Value) (n size : Nat) (xs : List Value) : Prop :=
  xs.length = n * size ∧ ∃ a c, v = .slice a n c ∧ (0 < n → ∃ g off, a = some ⟨g, off, none⟩ ∧ g < w.heap.size ∧ ∀ j u, xs[j]? = some u → w.cell? ⟨g, off + j, none⟩ = some u)
theorem Reads.keep {w w' : World} {v : Value} {n size : Nat} {xs : List Value} (h : Reads w v n size xs) (hk : ∀ x, v.ownBlock = some x → x < w.heap.size → w'.heap[x]? = w.heap[x]?) : Reads w' v n size xs := by
  obtain ⟨h1, a, c, rfl, h2⟩ := h
  refine ⟨h1, a, c, rfl, fun hn => ?_⟩
  obtain ⟨g, off, rfl, hg, hc⟩ := h2 hn
  have hb := hk g rfl hg
  refine ⟨g, off, rfl, ?_, fun j u hj => ?_⟩
  · have : w.heap[g]? = some w.heap[g] := Array.getElem?_eq_getElem hg
    exact lt_of_block (hb.trans this)
  · rw [World.cell?_of_block (w := w) (a := ⟨g, off + j, none⟩) hb]; exact hc j u hj
theorem Reads.fr {w w' : World} {v : Value} {n size : Nat} {xs : List Value} (h : Reads w v n size xs) (hf : Fr [] w w') : Reads w' v n size xs := h.keep fun x _ hx => hf.block x hx (by simp)
theorem Reads.of_owns {w : World} {base e n size : Nat} {v : Value} {xs : List Value} (h : w.ownsRow base e size v n xs) : Reads w v n size xs := by
  refine ⟨h.1, ?_⟩
  obtain ⟨a, c, rfl, ha, _⟩ := owns_form h
  refine ⟨a, c, rfl, fun hn => ?_⟩
  obtain ⟨g, rfl⟩ := ha hn
  exact ⟨g, 0, rfl, owns_lt h rfl, fun j u hj => by rw [Nat.zero_add]; exact owns_cell h rfl hj⟩
theorem lvl_known {s : Int} {ls : List Int} {id : Int} (h : 0 ≤ lvl s ls id) : 0 ≤ id ∧ id < s + ls.length ∨ 0 ≤ id ∧ id < s := by
  unfold lvl at h
  by_cases h1 : id < 0
  · rw [if_pos h1] at h; omega
  · rw [if_neg h1] at h
    by_cases h2 : id < s
    · right; omega
    · rw [if_neg h2] at h
      left
      refine ⟨by omega, ?_⟩
      rcases Nat.lt_or_ge (id - s).toNat ls.length with h3 | h3
      · omega
      · rw [List.getD_eq_getElem?_getD, List.getElem?_eq_none h3] at h
        simp at h
theorem lvl_take {s : Int} {ns : List K4} {i : Nat} {id : Int} (_ : i ≤ ns.length) (h : id < s + i) : lvl s (levs s (ns.take i)) id = lvl s (levs s ns) id := by
  unfold lvl
  by_cases h1 : id < 0
  · rw [if_pos h1, if_pos h1]
  · rw [if_neg h1, if_neg h1]
    by_cases h2 : id < s
    · rw [if_pos h2, if_pos h2]
    · rw [if_neg h2, if_neg h2, ← levs_take, List.getD_eq_getElem?_getD, List.getD_eq_getElem?_getD, List.getElem?_take, if_pos (by omega)]
/-- the first quadrant of a node: known, and one level below -/
theorem kid_down {s : Int} {ns : List K4} (h : GoodQ s ns) {j : Nat} {k : K4} (hj : ns[j]? = some k) : 0 ≤ k.a ∧ k.a < s + j ∧ lvl s (levs s ns) (s + j) = lvl s (levs s ns) k.a + 1 := by
  have hs : 2 ≤ s := h.1
  have hlt : j < ns.length := (List.getElem?_eq_some_iff.1 hj).1
  obtain ⟨l, hl, _, _, he⟩ := lvl_pos h hj
  have hf := (h.2.2.2.2 j k hj).1
  have hk := lvl_known hf
  have hlen : (levs s (ns.take j)).length = j := by rw [levs_length, List.length_take]; omega
  have hka : 0 ≤ k.a ∧ k.a < s + j := by omega
  refine ⟨hka.1, hka.2, ?_⟩
  rw [← lvl_take (by omega) hka.2, ← he]
  unfold lvl
  rw [if_neg (by omega), if_neg (by omega), show (s + (j : Int) - s).toNat = j by omega, List.getD_eq_getElem?_getD, hl]
  rfl
set_option maxHeartbeats 2000000 in
theorem level_ref {w : World} {s : Int} {ns : List K4} {v : Value} (hG : GoodQ s ns) (hv : Reads w v ns.length 4 (flat ns)) (id : Int) :
    Calls Try.prog 23 #[.agg #[.int .i64 s, v], .int .i64 id] w fun e w' => e = .returned (.int .i64 (lvl s (levs s ns) id)) ∧ ∃ o, w' = w.alloc o := by
  have hs1 := hG.1
  have hs2 := hG.2.1
  have hlen := hG.2.2.1
  have hln := levs_length s ns
  obtain ⟨_, a, c, rfl, hav⟩ := hv
  have hl : ns.length ≤ 1048576 := by omega
  by_cases hneg : id < 0
  · have e : lvl s (levs s ns) id = -1 := by unfold lvl; rw [if_pos hneg]
    rw [e]
    have hd : decide (id < 0) = true := by simpa using hneg
    clear hav hln hlen hG
    go_enter Try.func23, Try.ntmps23
    go_wp2
    go_ret
    exact ⟨rfl, _, rfl⟩
  · by_cases hfar : s + ns.length ≤ id
    · rw [lvl_far (by omega) hfar]
      have hd : decide (id < 0) = false := by simp; omega
      clear hav hln hlen hG
      go_enter Try.func23, Try.ntmps23
      go_wp2
      go_ret
      exact ⟨rfl, _, rfl⟩
    · have hd : decide (id < 0) = false := by simp; omega
      have Hav := Lib.hid hav
      have Hln := Lib.hid hln
      clear hav hln hlen
      go_enter Try.func23, Try.ntmps23
      go_wp2
      go_loop [1, 5] (fun x y => ∃ (i : Int) (n : Nat), x = .int .i64 i ∧ y = .int .i64 n ∧ 0 ≤ i ∧ i < s + ns.length ∧ n + i.toNat ≤ id.toNat ∧ lvl s (levs s ns) i + n = lvl s (levs s ns) id) (fun x _ => (intOf x).toNat)
      case atStart => exact ⟨id, 0, rfl, rfl, by omega, by omega, by omega, by omega⟩
      case round =>
        obtain ⟨i, n, rfl, rfl, hi0, hi1, hn, hL⟩ := hrel
        have HL := Lib.hid hL
        clear hL
        by_cases hge : s ≤ i
        · obtain ⟨j, rfl⟩ : ∃ j : Nat, i = s + j := ⟨(i - s).toNat, by omega⟩
          have hj : j < ns.length := by omega
          obtain ⟨g, off, rfl, hg, hc⟩ := Hav.out (by omega)
          have hk := kid_down hG (List.getElem?_eq_getElem hj)
          have hcell : w.cell? ⟨g, off + j * 4, none⟩ = some (.int .i64 (ns[j]).a) := hc _ _ (by rw [Nat.mul_comm]; exact (flat_get (List.getElem?_eq_getElem hj)).1)
          have hw1 : IntKind.i64.wrap (s + ↑j - s) = ↑j := IntWalk.i64_in _ (by omega) |>.trans (by omega)
          obtain ⟨k, hkk⟩ : ∃ k, k = (ns[j]).a := ⟨_, rfl⟩
          rw [← hkk] at hcell hk
          have Hk := Lib.hid hk
          have hk0 := hk.1
          have hk1 := hk.2.1
          clear hk hkk hc
          go_wp2
          go_round
          case rel => exact ⟨k, n + 1, rfl, by go_num, hk0, by omega, by omega, by have := Hk.out.2.2; have := HL.out; omega⟩
          case measure => simp [intOf]; omega
        · go_wp2
          go_ret
          refine ⟨?_, _, rfl⟩
          have h0 : lvl s (levs s ns) i = 0 := by unfold lvl; rw [if_neg (by omega), if_pos (by omega)]
          have := HL.out
          rw [show lvl s (levs s ns) id = n by omega]
          rfl
/-- what find returns -/
def findR (ns : List K4) (k : K4) : Int := match ns.idxOf? k with
  | some i => i
  | none => -1
theorem findR_at {ns : List K4} {k : K4} {i : Nat} (hi : i < ns.length) (he : ns[i] = k) (hn : ∀ j (h : j < ns.length), j < i → ns[j] ≠ k) : findR ns k = i := by
  have : ns.idxOf? k = some i := by
    rw [List.idxOf?_eq_some_iff]
    exact ⟨hi, he, fun j hj => hn j (by omega) hj⟩
  unfold findR; rw [this]
theorem findR_none {ns : List K4} {k : K4} (hn : ∀ j (h : j < ns.length), ns[j] ≠ k) : findR ns k = -1 := by
  have : ns.idxOf? k = none := by
    rw [List.idxOf?_eq_none_iff]
    intro hm
    obtain ⟨j, hj, e⟩ := List.getElem_of_mem hm
    exact hn j hj e
  unfold findR; rw [this]
set_option maxHeartbeats 2000000 in
theorem find_ref {w : World} {s : Int} {ns : List K4} {v : Value} (hl : ns.length ≤ 1048576) (hv : Reads w v ns.length 4 (flat ns)) (l : K4) :
    Calls Try.prog 24 #[.agg #[.int .i64 s, v], kv l] w fun e w' => e = .returned (.int .i64 (findR ns l)) ∧ ∃ o1 o2 n, w' = ((w.alloc o1).alloc o2).drewN n := by
  obtain ⟨_, a, c, rfl, hav⟩ := hv
  have Hav := Lib.hid hav
  clear hav
  unfold kv
  go_enter Try.func24, Try.ntmps24
  go_wp2
  go_loopw [5] (fun x wr => ∃ (k m : Nat), x = .int .i64 k ∧ k ≤ ns.length ∧ (∀ j (h : j < ns.length), j < k → ns[j] ≠ l) ∧ wr = (((w.alloc (.cells #[.int .i64 s, .slice a ns.length c] 24)).alloc (.cells #[.int .i64 l.a, .int .i64 l.b, .int .i64 l.c, .int .i64 l.d] 42))).drewN m) (fun x _ => ns.length - (intOf x).toNat)
  case atStart => exact ⟨0, 0, rfl, by omega, by omega, rfl⟩
  case round =>
    obtain ⟨k, m, rfl, hk, hn, rfl⟩ := hrel
    have Hn := Lib.hid hn
    clear hn
    by_cases hlt : k < ns.length
    · obtain ⟨g, off, rfl, hg, hc⟩ := Hav.out (by omega)
      obtain ⟨f0, f1, f2, f3⟩ := flat_get (List.getElem?_eq_getElem hlt)
      rw [Nat.mul_comm] at f0 f1 f2 f3
      obtain ⟨x, hx⟩ : ∃ x, x = ns[k] := ⟨_, rfl⟩
      rw [← hx] at f0 f1 f2 f3
      have e0 := hc _ _ f0
      have e1 := hc _ _ f1
      have e2 := hc _ _ f2
      have e3 := hc _ _ f3
      simp only [← Nat.add_assoc] at e1 e2 e3
      have Hx := Lib.hid hx
      clear hx hc f0 f1 f2 f3
      by_cases hxl : x.a = l.a ∧ x.b = l.b ∧ x.c = l.c ∧ x.d = l.d
      · have hq : (x.a == l.a && (x.b == l.b && (x.c == l.c && x.d == l.d))) = true := by simpa using hxl
        have Hxl := Lib.hid hxl
        clear hxl
        go_wp2
        refine wp_region_text (by kernel_rfl) (by kernel_rfl) ?_
        go_wp2
        refine Strict.intro rfl ?_
        go_wp2
        go_ret
        refine ⟨?_, _, _, m + 1, rfl⟩
        have hx := Hx.out
        have : findR ns l = k := findR_at hlt (by rw [← hx]; obtain ⟨h1, h2, h3, h4⟩ := Hxl.out; cases x; cases l; simp_all) Hn.out
        rw [this]
        rfl
      · have hq : (x.a == l.a && (x.b == l.b && (x.c == l.c && x.d == l.d))) = false := by rw [Bool.eq_false_iff]; intro h; apply hxl; simpa using h
        have Hxl := Lib.hid hxl
        clear hxl
        go_wp2
        refine wp_region_text (by kernel_rfl) (by kernel_rfl) ?_
        go_wp2
        refine Strict.intro rfl ?_
        go_wp2
        go_roundw
        case rel =>
          refine ⟨k + 1, m + 1, by go_num, by omega, fun j hj hjk => ?_, rfl⟩
          rcases Nat.lt_or_ge j k with h | h
          · exact Hn.out j hj h
          · obtain rfl : j = k := by omega
            intro e
            have hx := Hx.out
            rw [e] at hx
            exact Hxl.out (by rw [hx]; exact ⟨rfl, rfl, rfl, rfl⟩)
        case measure => simp [intOf]; omega
    · go_wp2
      go_ret
      refine ⟨?_, _, _, m, rfl⟩
      have : findR ns l = -1 := findR_none fun j hj => Hn.out j hj (by omega)
      rw [this]
      rfl
/-- what copied leaves -/
def CopyPost (w : World) (s : Int) (ns : List K4) (e : Ending) (w' : World) : Prop := ∃ v, e = .returned (.agg #[.int .i64 s, v]) ∧ w'.ownsRow w.heap.size 48 4 v ns.length (flat ns) ∧ Fr [] w w'
set_option maxHeartbeats 4000000 in
theorem copied_ref {w : World} {s : Int} {ns : List K4} {v : Value} (hl : ns.length ≤ 1048576) (hv : Reads w v ns.length 4 (flat ns)) :
    Calls Try.prog 22 #[.agg #[.int .i64 s, v]] w (CopyPost w s ns) := by
  have hvk := hv
  obtain ⟨_, a, c, rfl, hav⟩ := hv
  have Hav := Lib.hid hav
  have Hvk := Lib.hid hvk
  clear hav hvk
  obtain ⟨i0, hi0, hi1, hi2, hi3⟩ := info_parts info_quad
  go_enter Try.func22, Try.ntmps22
  go_wp2
  go_loopw [4] (fun x wr => ∃ (k : Nat) (nv : Value), x = .int .i64 k ∧ k ≤ ns.length ∧ Fr [] w wr ∧ w.heap.size + 3 ≤ wr.heap.size ∧ wr.heap[w.heap.size]? = some (.cells #[.int .i64 s, .slice a ns.length c] 24 (0, 0)) ∧
      wr.heap[w.heap.size + 1]? = some (.cells #[.int .i64 0, .slice none 0 0] 24 (0, 0)) ∧ wr.heap[w.heap.size + 2]? = some (.cells #[.int .i64 s, nv] 24 (0, 0)) ∧
      wr.ownsRow (w.heap.size + 3) 48 4 nv k (flat (ns.take k))) (fun x _ => ns.length - (intOf x).toNat)
  case atStart =>
    refine ⟨0, .slice none 0 0, rfl, by omega, ?_, ?_, ?_, ?_, ?_, World.ownsRow_nil _ _ _ _⟩
    · repeat (first | exact Fr.refl _ _ | apply Fr.drewN | apply Fr.drew | apply Fr.alloc | refine Fr.setCell ?_ (Or.inr (by simp)) _)
    · simp only [hp_alloc_size]; omega
    · (repeat (first | rw [if_pos (by omega)] | rw [if_neg (by omega)] | rw [hp_drew] | rw [hp_drewN] | rw [hp_alloc_size] | rw [hp_setCell_size] | rw [hp_alloc] | rw [hp_setCell] | rw [Option.map_some] | rw [upd_cells] | rw [List.set_cons_zero] | rw [List.set_cons_succ] | rfl))
    · (repeat (first | rw [if_pos (by omega)] | rw [if_neg (by omega)] | rw [hp_drew] | rw [hp_drewN] | rw [hp_alloc_size] | rw [hp_setCell_size] | rw [hp_alloc] | rw [hp_setCell] | rw [Option.map_some] | rw [upd_cells] | rw [List.set_cons_zero] | rw [List.set_cons_succ] | rfl))
    · (repeat (first | rw [if_pos (by omega)] | rw [if_neg (by omega)] | rw [hp_drew] | rw [hp_drewN] | rw [hp_alloc_size] | rw [hp_setCell_size] | rw [hp_alloc] | rw [hp_setCell] | rw [Option.map_some] | rw [upd_cells] | rw [List.set_cons_zero] | rw [List.set_cons_succ] | rfl))
  case round =>
    obtain ⟨k, nv, rfl, hk, hf, hsz, hb0, hb1, hb2, hown⟩ := hrel
    have b0 := heap_eq_cell hb0 0
    have b1 := heap_eq_cell hb0 1
    have r0 := heap_eq_cell hb1 0
    have r1 := heap_eq_cell hb1 1
    have q0 := heap_eq_frozen hb1 0
    have q1 := heap_eq_frozen hb1 1
    have o0 := heap_eq_cell hb2 0
    have o1 := heap_eq_cell hb2 1
    have p1 := heap_eq_frozen hb2 1
    have Hsz := Lib.hid hsz
    have hz0 : w.heap.size < wr.heap.size := by omega
    have hz1 : w.heap.size + 1 < wr.heap.size := by omega
    have hz2 : w.heap.size + 2 < wr.heap.size := by omega
    have hnb : ∀ x, nv.ownBlock = some x → w.heap.size + 3 ≤ x := fun x hx => owns_ge hown hx
    have Hnb := Lib.hid hnb
    have Hf := Lib.hid hf
    have H0 := Lib.hid hb0
    have H1 := Lib.hid hb1
    have H2 := Lib.hid hb2
    have Hown := Lib.hid hown
    obtain ⟨na, nc, rfl, _, _⟩ := owns_form hown
    clear hf hb0 hb1 hb2 hown hsz hnb
    by_cases hlt : k < ns.length
    · obtain ⟨g, off, rfl, hg, hc⟩ := Hav.out (by omega)
      obtain ⟨f0, f1, f2, f3⟩ := flat_get (List.getElem?_eq_getElem hlt)
      rw [Nat.mul_comm] at f0 f1 f2 f3
      obtain ⟨x, hx⟩ : ∃ x, x = ns[k] := ⟨_, rfl⟩
      rw [← hx] at f0 f1 f2 f3
      have hgw : ∀ j, wr.cell? ⟨g, off + j, none⟩ = w.cell? ⟨g, off + j, none⟩ := fun j => Hf.out.cell (p := ⟨g, off + j, none⟩) hg (by simp)
      have e0 := (hgw _).trans (hc _ _ f0)
      have e1 := (hgw _).trans (hc _ _ f1)
      have e2 := (hgw _).trans (hc _ _ f2)
      have e3 := (hgw _).trans (hc _ _ f3)
      simp only [← Nat.add_assoc] at e1 e2 e3
      have hgr : g < wr.heap.size := by omega
      have Hx := Lib.hid hx
      clear hx hc f0 f1 f2 f3 hgw
      go_wp2
      (refine wp_region_text (by kernel_rfl) (by kernel_rfl) ?_)
      go_wp2_with (at_builtin; refine append_quad (k := x) (n := k) (base := w.heap.size + 3) (xs := flat (ns.take k)) rfl rfl rfl ?e1 rfl ?e2 ?e3 ?e4 ?_)
      case e1 => exact owns_of_block Hown.out fun y hy => by rw [hp_drew]; exact heap_alloc_else _ _ _ (owns_lt Hown.out hy)
      case e2 => (repeat (first | rw [if_pos (by omega)] | rw [if_neg (by omega)] | rw [hp_drew] | rw [hp_drewN] | rw [hp_alloc_size] | rw [hp_setCell_size] | rw [hp_alloc] | rw [hp_setCell] | rw [Option.map_some] | rw [upd_cells] | rw [List.set_cons_zero] | rw [List.set_cons_succ] | rfl))
      case e3 => omega
      case e4 => rw [hp_drew, hp_alloc_size]; omega
      intro g' cap w1 hown1 hW1 hF1 hloc1 hg1
      have old : ∀ y, y < w.heap.size + 3 → w1.heap[y]? = wr.heap[y]? := fun y hy => (hW1 y (by have := Hsz.out; first | omega | (simp only [hp_drew, hp_alloc_size]; omega)) (fun e => by have := Hnb.out y e; omega)).trans (by rw [hp_drew]; exact heap_alloc_else _ _ _ (by have := Hsz.out; omega))
      have hb2 := (old (w.heap.size + 2) (by omega)).trans H2.out
      have o0 := heap_eq_cell hb2 0
      have o1 := heap_eq_cell hb2 1
      have p1 := heap_eq_frozen hb2 1
      have Hown1 := Lib.hid hown1
      have Hold := Lib.hid old
      have HF1 := Lib.hid hF1
      have HB2 := Lib.hid hb2
      clear hown1 hW1 hF1 hloc1 old hb2
      have hs1 : w.heap.size + 2 < w1.heap.size := lt_of_block HB2.out
      go_wp2
      refine Strict.intro rfl ?_
      go_wp2
      go_roundw
      case rel =>
        have hG : w.heap.size + 3 ≤ g' := owns_ge Hown1.out rfl
        refine ⟨k + 1, .slice (some ⟨g', 0, none⟩) (k + 1) cap, by go_num, by omega, ?_, ?_, ?_, ?_, ?_, ?_⟩
        · refine (((Hf.out.alloc _).drew).trans HF1.out fun y hy => ?_).setCell (Or.inr (by simp; omega)) _
          have := Hnb.out y (by simpa using hy)
          right; omega
        · rw [hp_setCell_size]; have := HF1.out.size; simp only [hp_drew, hp_alloc_size] at this; have := Hsz.out; omega
        · rw [hp_setCell, if_neg (by omega), Hold.out _ (by omega)]; exact H0.out
        · rw [hp_setCell, if_neg (by omega), Hold.out _ (by omega)]; exact H1.out
        · rw [hp_setCell, if_pos rfl, HB2.out]; rfl
        · have ht : flat (ns.take (k + 1)) = flat (ns.take k) ++ kcells x := by
            rw [List.take_add_one, List.getElem?_eq_getElem hlt, ← Hx.out]
            exact flat_snoc _ _
          rw [ht]
          refine owns_of_block Hown1.out fun y hy => ?_
          have : g' = y := by simpa [Value.ownBlock] using hy
          rw [hp_setCell, if_neg (by omega)]
      case measure => simp [intOf]; omega
    · go_wp2
      refine bodyPost_ret (v := .agg #[.int .i64 s, .slice na k nc]) (by simp [results, Try.results22, go_sem, r0, r1]) rfl ⟨_, rfl, ?_, ?_⟩
      · have hkn : k = ns.length := by omega
        subst hkn
        rw [List.take_of_length_le (Nat.le_refl _)] at Hown
        refine owns_of_block (owns_base Hown.out (by omega)) fun y hy => ?_
        have := Hnb.out y hy
        exact heap_setCell2 _ _ _ _ _ _ (by omega)
      · exact (Hf.out.setCell (Or.inr (by simp)) _).setCell (Or.inr (by simp)) _
/-- Same compares -/
def sameQ (s1 s2 : Int) (n1 n2 : List K4) : Bool := s1 == s2 && decide (n1 = n2)
end Go.Proofs.Ytgcompnpjpmanaa
