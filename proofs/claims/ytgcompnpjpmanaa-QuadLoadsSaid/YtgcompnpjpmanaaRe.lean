/- The reference's store of layer 25: Empty. -/
import Derived.Test.YtgcompnpjpmanaaRj
import Derived.Test.YtgcompnpjpmanaaQp
namespace Go.Proofs.Ytgcompnpjpmanaa
open Go Go.RowKit Go.Proofs.Rg Go.Proofs.Mp Go.Proofs.Hp Go.Proofs.Qs
theorem climb_grow {s : Int} {ns : List K4} (hg : GoodQ s ns) : ∀ (m : Nat) (id : Int) (n : Nat), n ≤ (climb s ns m id n).2 ∧ grow s m id ns = grow s (m - ((climb s ns m id n).2 - n)) (climb s ns m id n).1 ns
  | 0, id, n => ⟨Nat.le_refl _, by simp [climb]⟩
  | m + 1, id, n => by
    unfold climb
    cases hi : ns.idxOf? (four id) with
    | none => exact ⟨Nat.le_refl _, by simp⟩
    | some i =>
      obtain ⟨L, _, _, _, _, _, _, _, hj⟩ := node_down hg (idx_get hi)
      obtain ⟨h1, h2⟩ := climb_grow hg m (s + i) (n + 1)
      refine ⟨by show n ≤ (climb s ns m (s + i) (n + 1)).2; omega, ?_⟩
      show grow s (m + 1) id ns = grow s (m + 1 - ((climb s ns m (s + i) (n + 1)).2 - n)) (climb s ns m (s + i) (n + 1)).1 ns
      rw [show m + 1 - ((climb s ns m (s + i) (n + 1)).2 - n) = m - ((climb s ns m (s + i) (n + 1)).2 - (n + 1)) by omega, ← h2]
      show grow s m (join s ns (four id)).1.1 (join s ns (four id)).2 = _
      rw [hj]
theorem grow_snoc (s : Int) : ∀ (m : Nat) (id : Int) (ns : List K4), grow s (m + 1) id ns = ((join s (grow s m id ns).2 (four (grow s m id ns).1)).1.1, (join s (grow s m id ns).2 (four (grow s m id ns).1)).2)
  | 0, _, _ => rfl
  | m + 1, id, ns => by
    show grow s (m + 1) (join s ns (four id)).1.1 (join s ns (four id)).2 = _
    rw [grow_snoc s m]
    rfl
theorem empty_grow {s : Int} {ns : List K4} (hg : GoodQ s ns) {L : Nat} (hL : L ≤ 256) (hl : ns.length + L ≤ 100000) : emptyQ s ns L = (((grow s L 0 ns).1, 0), (grow s L 0 ns).2) := by
  obtain ⟨_, h⟩ := climb_grow hg L 0 0
  have hk := climb_le (s := s) (ns := ns) L 0 0
  unfold emptyQ
  rw [if_neg (by omega), show (L : Int).toNat = L by omega, if_neg (by omega), h]
  rfl
theorem grow_len (s : Int) : ∀ (m : Nat) (id : Int) (ns : List K4), (grow s m id ns).2.length ≤ ns.length + m
  | 0, _, _ => Nat.le_refl _
  | m + 1, id, ns => by
    have h1 := grow_len s m (join s ns (four id)).1.1 (join s ns (four id)).2
    have h2 := join_len s ns (four id)
    show (grow s m (join s ns (four id)).1.1 (join s ns (four id)).2).2.length ≤ _
    omega
theorem empty_low {s : Int} {ns : List K4} {l : Int} (h : l < 0) : emptyQ s ns l = ((0, 18), ns) := by
  unfold emptyQ
  rw [if_pos (.inl h)]
/-- one step of growing -/
theorem grow_next {s : Int} {ns : List K4} (hg : GoodQ s ns) {i : Nat} (hi : i < 256) (hl : ns.length + 256 ≤ 100000) :
    (∃ j : Nat, (grow s i 0 ns).2.idxOf? (four (grow s i 0 ns).1) = some j ∧ j < (grow s i 0 ns).2.length ∧ grow s (i + 1) 0 ns = (s + j, (grow s i 0 ns).2)) ∨
    ((grow s i 0 ns).2.idxOf? (four (grow s i 0 ns).1) = none ∧ grow s (i + 1) 0 ns = (s + (grow s i 0 ns).2.length, (grow s i 0 ns).2 ++ [four (grow s i 0 ns).1])) := by
  obtain ⟨h1, h2⟩ := grow_chain i (id := 0) (n := 0) hg rfl (by omega) (by omega)
  have hlen := grow_len s i 0 ns
  have hlv := Chain_level h1 h2
  rw [grow_snoc]
  have hfit : Fits s (grow s i 0 ns).2 (four (grow s i 0 ns).1) := ⟨by show 0 ≤ lvl _ _ (grow s i 0 ns).1; omega, by show lvl _ _ (grow s i 0 ns).1 < 256; omega, rfl, rfl, rfl⟩
  have hj : join s (grow s i 0 ns).2 (four (grow s i 0 ns).1) = joinIn s (grow s i 0 ns).2 (four (grow s i 0 ns).1) := by
    unfold join
    have h0 : 0 ≤ lvl s (levs s (grow s i 0 ns).2) (grow s i 0 ns).1 := by omega
    rw [if_neg (by show ¬ (lvl s (levs s (grow s i 0 ns).2) (grow s i 0 ns).1 < 0 ∨ lvl s (levs s (grow s i 0 ns).2) (grow s i 0 ns).1 < 0 ∨ lvl s (levs s (grow s i 0 ns).2) (grow s i 0 ns).1 < 0 ∨ lvl s (levs s (grow s i 0 ns).2) (grow s i 0 ns).1 < 0); omega), if_neg (fun hh => hh hfit)]
  rw [hj]
  cases hi2 : (grow s i 0 ns).2.idxOf? (four (grow s i 0 ns).1) with
  | some j =>
    left
    refine ⟨j, rfl, ?_, by rw [joinIn_hit hi2]⟩
    rw [List.idxOf?_eq_some_iff] at hi2
    exact hi2.1
  | none =>
    right
    exact ⟨rfl, by rw [joinIn_new hi2 (by omega)]⟩
set_option maxHeartbeats 8000000 in
set_option maxRecDepth 100000 in
theorem REmpty_calls {w : World} {b : Nat} {s : Int} {ns : List K4} {F : List Nat} (hS : RefAt w b s ns F) (hlen : ns.length + 256 ≤ 90000) (level : Int) :
    Calls Try.prog 29 #[.pointer (some ⟨b, 0, none⟩), .int .i64 level] w (RTwo w b s (emptyQ s ns level) F) := by
  by_cases hneg : level < 0
  · have hE := empty_low (s := s) (ns := ns) hneg
    have HE := Lib.hid hE
    have HS := Lib.hid hS
    clear hE hS hlen
    go_enter Try.func29, Try.ntmps29
    go_wp2
    go_ret2
    exact RTwo.same HS.out (Fr.refl _ _) HE.out
  by_cases hbig : 256 < level
  · have hE := empty_high (s := s) (ns := ns) hbig
    have HE := Lib.hid hE
    have HS := Lib.hid hS
    clear hE hS hlen
    go_enter Try.func29, Try.ntmps29
    go_wp2
    go_ret2
    exact RTwo.same HS.out (Fr.refl _ _) HE.out
  obtain ⟨L, rfl⟩ : ∃ L : Nat, level = L := ⟨level.toNat, by omega⟩
  have hL : L ≤ 256 := by omega
  have hE := empty_grow hS.1 hL (by omega)
  have HE := Lib.hid hE
  have HS := Lib.hid hS
  have Hlen := Lib.hid hlen
  clear hE hlen hneg hbig
  obtain ⟨hgood, nv, hI, rfl⟩ := hS
  obtain ⟨na, nc, rfl, _, _⟩ := owns_form hI.nodes
  have b0 := heap_eq_cell hI.blk 0
  have b1 := heap_eq_cell hI.blk 1
  have hs1 : 2 ≤ s := hgood.1
  have hs2 : s ≤ 8 := hgood.2.1
  have hb : b < w.heap.size := lt_of_block hI.blk
  have HI := Lib.hid hI
  have Hgood := Lib.hid hgood
  clear hI hgood
  obtain ⟨i0, hi0, hi1, hi2, hi3⟩ := info_parts info_quad
  go_enter Try.func29, Try.ntmps29
  go_wp2_with fail
  refine (copied_ref (s := s) (by have := Hlen.out; omega) (Reads.of_owns HI.out.nodes)).mono ?_
  rintro e w2 ⟨v, rfl, ho, hf⟩
  obtain ⟨va, vc, rfl, _, _⟩ := owns_form ho
  have hsz2 := hf.size
  have Ho := Lib.hid ho
  have Hf := Lib.hid hf
  clear ho hf b0 b1
  go_wp2
  go_loopw [8, 7] (fun x y wr => ∃ (i : Nat) (nv : Value), x = .int .i64 i ∧ y = .int .i64 (grow s i 0 ns).1 ∧ i ≤ L ∧ Fr [] w wr ∧ wr.heap[w2.heap.size]? = some (.cells #[.int .i64 s, nv] 24 (0, 0)) ∧
      wr.ownsRow w.heap.size 48 4 nv (grow s i 0 ns).2.length (flat (grow s i 0 ns).2) ∧ nv.ownBlock ≠ some w2.heap.size) (fun x _ _ => L - (intOf x).toNat)
  case atStart =>
    refine ⟨0, _, rfl, rfl, by omega, Hf.out.alloc _, by (repeat (first | rw [if_pos (by omega)] | rw [if_neg (by omega)] | rw [hp_drew] | rw [hp_drewN] | rw [hp_alloc_size] | rw [hp_setCell_size] | rw [hp_alloc] | rw [hp_setCell] | rw [Option.map_some] | rw [upd_cells] | rw [List.set_cons_zero] | rw [List.set_cons_succ] | rfl)), owns_of_block Ho.out fun x hx => heap_alloc_else _ _ _ (owns_lt Ho.out hx), fun h => ?_⟩
    have := owns_lt Ho.out h
    omega
  case round =>
    obtain ⟨i, nv, rfl, rfl, hi, hf, hq, hown, hne⟩ := hrel
    have q0 := heap_eq_cell hq 0
    have q1 := heap_eq_cell hq 1
    have p1 := heap_eq_frozen hq 1
    have hqlt : w2.heap.size < wr.heap.size := lt_of_block hq
    have hgl := grow_len s i 0 ns
    have hnb : ∀ x, nv.ownBlock = some x → w.heap.size ≤ x := fun x hx => owns_ge hown hx
    obtain ⟨ma, mc, rfl, _, _⟩ := owns_form hown
    by_cases hlt : i < L
    · have hnext := grow_next Hgood.out (i := i) (by omega) (by have := Hlen.out; omega)
      obtain ⟨G, hG⟩ : ∃ G, G = grow s i 0 ns := ⟨_, rfl⟩
      rw [← hG] at hnext hown q1 hgl hq hne hnb
      rw [← hG]
      obtain ⟨id, ms⟩ := G
      simp only at hnext hown q1 hgl hq hne hnb
      have hml : ms.length ≤ 1048576 := by have := Hlen.out; omega
      have Hf' := Lib.hid hf
      have Hq := Lib.hid hq
      have Hown := Lib.hid hown
      have Hne := Lib.hid hne
      have Hgl := Lib.hid hgl
      have Hnb := Lib.hid hnb
      have Hnext := Lib.hid hnext
      clear hf hq hown hne hgl hnb hnext hG
      have hF : ∀ w1 fi, fi = findR ms (four id) → Fr [] wr w1 → Calls Try.prog 24 #[.agg #[.int .i64 s, .slice ma ms.length mc], .agg #[.int .i64 id, .int .i64 id, .int .i64 id, .int .i64 id]] w1 fun e w' => e = .returned (.int .i64 fi) ∧ Fr [] w1 w' := fun w1 fi hfi hf1 => by
        subst hfi
        refine (find_ref (s := s) (by omega) ((Reads.of_owns Hown.out).fr hf1) (four id)).mono ?_
        rintro e w' ⟨rfl, o1, o2, n, rfl⟩
        exact ⟨rfl, (((Fr.refl [] w1).alloc o1).alloc o2).drewN n⟩
      have HF := Lib.hid hF
      clear hF
      have hfacts : ∀ w3, Fr [] (wr.alloc (.cells #[.int .i64 id, .int .i64 id, .int .i64 id, .int .i64 id] 42)) w3 → Fr [] w w3 ∧ wr.heap.size < w3.heap.size ∧ w3.heap[w2.heap.size]? = some (.cells #[.int .i64 s, .slice ma ms.length mc] 24 (0, 0)) ∧
          w3.heap[wr.heap.size]? = some (.cells #[.int .i64 id, .int .i64 id, .int .i64 id, .int .i64 id] 42 (0, 0)) ∧ w3.ownsRow w.heap.size 48 4 (.slice ma ms.length mc) ms.length (flat ms) := fun w3 hf3 => by
        have hsz := hf3.size
        rw [hp_alloc_size] at hsz
        refine ⟨((Hf'.out.alloc _).trans0 hf3), by omega, ?_, ?_, ?_⟩
        · rw [hf3.block _ (by rw [hp_alloc_size]; omega) (by simp), heap_alloc_else _ _ _ hqlt]; exact Hq.out
        · rw [hf3.block _ (by rw [hp_alloc_size]; omega) (by simp)]; (repeat (first | rw [if_pos (by omega)] | rw [if_neg (by omega)] | rw [hp_drew] | rw [hp_drewN] | rw [hp_alloc_size] | rw [hp_setCell_size] | rw [hp_alloc] | rw [hp_setCell] | rw [Option.map_some] | rw [upd_cells] | rw [List.set_cons_zero] | rw [List.set_cons_succ] | rfl))
        · exact owns_of_block Hown.out fun y hy => by
            have := owns_lt Hown.out hy
            rw [hf3.block _ (by rw [hp_alloc_size]; omega) (by simp), heap_alloc_else _ _ _ this]
      have Hfacts := Lib.hid hfacts
      clear hfacts
      rcases Hnext.out with ⟨j, hj, hjl, hG⟩ | ⟨hn, hG⟩
      · have HG := Lib.hid hG
        have hfi : (j : Int) = findR ms (four id) := by unfold findR; rw [hj]
        have Hfi := Lib.hid hfi
        clear hG hj hfi Hnext
        go_wp2_with fail
        refine (HF.out _ _ Hfi.out ((Fr.refl _ _).alloc _)).mono ?_
        rintro e w3 ⟨rfl, hf3⟩
        obtain ⟨g1, g2, g3, g4, g5⟩ := Hfacts.out w3 hf3
        have q0 := heap_eq_cell g3 0
        have q1 := heap_eq_cell g3 1
        have G1 := Lib.hid g1
        have G3 := Lib.hid g3
        have G5 := Lib.hid g5
        clear g1 g3 g4 g5 hf3
        go_wp2
        go_roundw
        case rel => exact ⟨i + 1, _, by go_num, by rw [HG.out], by omega, G1.out, G3.out, by rw [HG.out]; exact G5.out, Hne.out⟩
        case measure => simp [intOf]; omega
      · have HG := Lib.hid hG
        have hfi : (-1 : Int) = findR ms (four id) := by unfold findR; rw [hn]
        have Hfi := Lib.hid hfi
        clear hG hn hfi Hnext
        go_wp2_with fail
        refine (HF.out _ _ Hfi.out ((Fr.refl _ _).alloc _)).mono ?_
        rintro e w3 ⟨rfl, hf3⟩
        obtain ⟨g1, g2, g3, g4, g5⟩ := Hfacts.out w3 hf3
        have q0 := heap_eq_cell g3 0
        have q1 := heap_eq_cell g3 1
        have p1 := heap_eq_frozen g3 1
        have k0 := heap_eq_cell g4 0
        have k1 := heap_eq_cell g4 1
        have k2 := heap_eq_cell g4 2
        have k3 := heap_eq_cell g4 3
        have hq3 := lt_of_block g3
        have G1 := Lib.hid g1
        have G3 := Lib.hid g3
        have G5 := Lib.hid g5
        clear g1 g3 g4 g5 hf3
        go_wp2_with (at_builtin; refine append_quad (k := four id) (n := ms.length) (base := w.heap.size) (xs := flat ms) rfl rfl rfl ?e1 rfl ?e2 ?e3 ?e4 ?_)
        case e1 => exact owns_of_block G5.out fun y hy => heap_alloc_else _ _ _ (owns_lt G5.out hy)
        case e2 => (repeat (first | rw [if_pos (by omega)] | rw [if_neg (by omega)] | rw [hp_drew] | rw [hp_drewN] | rw [hp_alloc_size] | rw [hp_setCell_size] | rw [hp_alloc] | rw [hp_setCell] | rw [Option.map_some] | rw [upd_cells] | rw [List.set_cons_zero] | rw [List.set_cons_succ] | rfl))
        case e3 => omega
        case e4 => have := G1.out.size; simp; omega
        intro g cap w9 hown1 hW1 hF1 hloc1 hg1
        have hsz3 := G1.out.size
        have hb9 : w9.heap[w2.heap.size]? = some (.cells #[.int .i64 s, .slice ma ms.length mc] 24 (0, 0)) := by
          rw [hW1 _ (by omega) Hne.out]
          show (World.alloc _ _).heap[_]? = _
          rw [heap_alloc_else _ _ _ hq3]; exact G3.out
        have o0 := heap_eq_cell hb9 0
        have o1 := heap_eq_cell hb9 1
        have r1 := heap_eq_frozen hb9 1
        have hlt9 := lt_of_block hb9
        have hgq : g ≠ w2.heap.size := fun e => by
          rcases hloc1 with h | h
          · rw [e] at h; exact Hne.out h
          · omega
        have hgw : w.heap.size ≤ g := owns_ge hown1 rfl
        have HF9 := Lib.hid ((G1.out.alloc _).trans hF1 (fun y hy => .inr (Hnb.out y (by simpa using hy))))
        have Hown1 := Lib.hid hown1
        have Hb9 := Lib.hid hb9
        have Hgw := Lib.hid hgw
        clear hown1 hW1 hF1 hloc1 hb9 hsz3 hgw
        go_wp2
        go_roundw
        case rel =>
          refine ⟨i + 1, .slice (some ⟨g, 0, none⟩) (ms.length + 1) cap, by go_num, ?_, by omega, ?_, ?_, ?_, ?_⟩
          · rw [HG.out]
          · exact HF9.out.setCell (.inr (by show w.heap.size ≤ w2.heap.size; omega)) _
          · (repeat (first | rw [if_pos (by omega)] | rw [if_neg (by omega)] | rw [hp_drew] | rw [hp_drewN] | rw [hp_alloc_size] | rw [hp_setCell_size] | rw [hp_alloc] | rw [hp_setCell] | rw [Option.map_some] | rw [upd_cells] | rw [List.set_cons_zero] | rw [List.set_cons_succ] | rfl))
            rw [Hb9.out]; rfl
          · rw [HG.out]
            show World.ownsRow _ _ _ _ _ (ms ++ [four id]).length (flat (ms ++ [four id]))
            rw [flat_snoc, List.length_append]
            refine owns_of_block Hown1.out fun y hy => ?_
            have : g = y := by simpa [Value.ownBlock] using hy
            rw [hp_setCell, if_neg (by omega)]
          · intro e
            have : g = w2.heap.size := by simpa [Value.ownBlock] using e
            exact hgq this
        case measure => simp [intOf]; omega
    · obtain rfl : i = L := by omega
      have hbr : wr.heap[b]? = some (.cells #[.int .i64 s, .slice na ns.length nc] 57 (0, 0)) := (hf.block b hb (by simp)).trans HI.out.blk
      have c0 := heap_eq_cell hbr 0
      have c1 := heap_eq_cell hbr 1
      have d0 := heap_eq_frozen hbr 0
      have d1 := heap_eq_frozen hbr 1
      obtain ⟨h1, _⟩ := grow_chain i (id := 0) (n := 0) Hgood.out rfl (by omega) (by have := Hlen.out; omega)
      have hgood : GoodQ s (grow s i 0 ns).2 := h1
      have hd : decide ((100000 : Int) < ↑(grow s i 0 ns).2.length) = false := by have := Hlen.out; simp; omega
      have Hbr := Lib.hid hbr
      have Hf' := Lib.hid hf
      have Hown := Lib.hid hown
      have Hgd := Lib.hid hgood
      clear hbr hf hown hgood h1 hgl
      obtain ⟨G, hG⟩ : ∃ G, G = grow s i 0 ns := ⟨_, rfl⟩
      rw [← hG] at hd q1
      rw [← hG]
      have HG := Lib.hid hG
      clear hG
      go_wp2
      go_ret2
      have hE := HE.out
      rw [← HG.out] at hE
      have hO := Hown.out
      rw [← HG.out] at hO
      rw [← HG.out] at hnb
      have hgd := Hgd.out
      rw [← HG.out] at hgd
      rw [hE]
      refine ⟨rfl, b :: (Value.slice ma G.2.length mc).ownBlock.toList, ⟨hgd, .slice ma G.2.length mc, ⟨?_, ?_, ?_⟩, rfl⟩, ?_, ?_⟩
      · (repeat (first | rw [if_pos (by omega)] | rw [if_neg (by omega)] | rw [hp_drew] | rw [hp_drewN] | rw [hp_alloc_size] | rw [hp_setCell_size] | rw [hp_alloc] | rw [hp_setCell] | rw [Option.map_some] | rw [upd_cells] | rw [List.set_cons_zero] | rw [List.set_cons_succ] | rfl))
        rw [Hbr.out]; rfl
      · refine owns_of_block (owns_base hO (Nat.zero_le _)) fun y hy => ?_
        have := hnb y hy
        rw [heap_setCell2 _ _ _ _ _ _ (by omega)]
      · intro e; have := hnb _ e; omega
      · have h1 : Fr (b :: (Value.slice na ns.length nc).ownBlock.toList) w wr := Hf'.out.mono (by simp)
        repeat (first | exact h1 | apply Fr.drewN | apply Fr.drew | refine Fr.setCell ?_ (.inl (by simp)) _)
      · intro y hy
        simp only [List.mem_cons, Option.mem_toList] at hy
        rcases hy with rfl | hy
        · exact .inl (by simp)
        · exact .inr (hnb y hy)
end Go.Proofs.Ytgcompnpjpmanaa
