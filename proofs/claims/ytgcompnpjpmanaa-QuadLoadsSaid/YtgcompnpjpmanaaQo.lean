/- Joining the quadrants of a node leads to the node: the law's walk. -/
import Derived.Test.YtgcompnpjpmanaaQw
import Derived.LoopN
import Derived.Test.YtgcompnpjpmanaaRf
namespace Go.Proofs.Ytgcompnpjpmanaa
open Go Go.RowKit Go.Proofs.Rg Go.Proofs.Mp Go.Proofs.Hp Go.Proofs.Qs
theorem node_down {s : Int} {ns : List K4} (h : GoodQ s ns) {j : Nat} {k : K4} (hj : ns[j]? = some k) :
    ∃ L, 1 ≤ L ∧ L ≤ 256 ∧ lvl s (levs s ns) (s + j) = L ∧ lvl s (levs s ns) k.a = L - 1 ∧ lvl s (levs s ns) k.b = L - 1 ∧ lvl s (levs s ns) k.c = L - 1 ∧ lvl s (levs s ns) k.d = L - 1 ∧ join s ns k = ((s + j, 0), ns) := by
  have hs : 2 ≤ s := h.1
  have hlt : j < ns.length := (List.getElem?_eq_some_iff.1 hj).1
  obtain ⟨h0, h1, h2, h3, h4⟩ := h.2.2.2.2 j k hj
  have hlen : (levs s (ns.take j)).length = j := by rw [levs_length, List.length_take]; omega
  have up : ∀ id, 0 ≤ lvl s (levs s (ns.take j)) id → lvl s (levs s (ns.take j)) id = lvl s (levs s ns) id := fun id hid => by
    have := lvl_known hid
    exact lvl_take (by omega) (by omega)
  have ea := up k.a h0
  have eb := up k.b (by omega)
  have ec := up k.c (by omega)
  have ed := up k.d (by omega)
  have hd := (kid_down h hj).2.2
  rw [ea] at h0 h1 h2 h3 h4
  rw [eb] at h2
  rw [ec] at h3
  rw [ed] at h4
  refine ⟨_, ?_, ?_, rfl, ?_, ?_, ?_, ?_, ?_⟩
  · omega
  · omega
  · omega
  · omega
  · omega
  · omega
  · unfold join
    rw [if_neg (by omega), if_neg (fun hn => hn ⟨h0, h1, h2, h3, h4⟩)]
    refine joinIn_hit ?_
    rw [List.idxOf?_eq_some_iff]
    have hk : ns[j] = k := (List.getElem?_eq_some_iff.1 hj).2
    refine ⟨hlt, by simpa using hk, fun i hi => ?_⟩
    intro he
    have he' : ns[i] = ns[j] := by rw [hk]; simpa using he
    have := (List.getElem_inj h.2.2.2.1).1 he'
    omega
theorem kids_node {s : Int} {ns : List K4} {j : Nat} {k : K4} (hj : ns[j]? = some k) : kidsOf s ns (s + j) = (k, true) := by
  unfold kidsOf
  rw [if_neg (by omega), show (s + (j : Int) - s).toNat = j by omega, hj]
theorem Join_hit {w : World} {b : Nat} {s r : Int} {ns : List K4} {F : List Nat} (hS : StoreAt w b s ns F) (k : K4) (hj : join s ns k = ((r, 0), ns)) :
    Calls Try.prog 19 #[.pointer (some ⟨b, 0, none⟩), .int .i64 k.a, .int .i64 k.b, .int .i64 k.c, .int .i64 k.d] w fun e w' =>
      e = .returned (.tuple #[.int .i64 r, .int .i64 0]) ∧ ∃ F', StoreAt w' b s ns F' ∧ Fr F w w' ∧ ∀ x ∈ F', x ∈ F ∨ w.heap.size ≤ x := by
  have := Join_calls hS k
  unfold JoinPost at this
  rw [hj] at this
  exact this
set_option maxHeartbeats 8000000 in
set_option maxRecDepth 100000 in
theorem QuadOnce_calls {W : World} {s : Int} {ns : List K4} {v : Value} (hv : Reads W v ns.length 4 (flat ns)) :
    Calls Try.prog 6 #[.agg #[.int .i64 s, v]] W fun e w' => e = .returned (.bool true) ∧ Fr [] W w' := by
  have hvk := hv
  obtain ⟨_, a, c, rfl, hav⟩ := hv
  have Hav := Lib.hid hav
  have Hvk := Lib.hid hvk
  clear hav hvk
  by_cases hl : 200 < ns.length
  · have hd : decide ((200 : Int) < ↑ns.length) = true := by simp; omega
    clear hl
    go_enter Try.func6, Try.ntmps6
    go_wp2_with fail
    refine (awake_calls _).mono ?_
    rintro e w1 ⟨rfl, hf⟩
    have Hf := Lib.hid (((Fr.refl [] W).alloc _).trans0 hf)
    clear hf
    go_wp2
    go_ret
    exact ⟨rfl, Hf.out⟩
  have hd : decide ((200 : Int) < ↑ns.length) = false := by simp; omega
  have Hl := Lib.hid hl
  clear hl
  go_enter Try.func6, Try.ntmps6
  go_wp2_with fail
  have hbx : (W.alloc (.cells #[.int .i64 s, .slice a ns.length c] 24)).heap[W.heap.size]? = some (.cells #[.int .i64 s, .slice a ns.length c] 24 (0, 0)) := by (repeat (first | rw [if_pos (by omega)] | rw [if_neg (by omega)] | rw [hp_drew] | rw [hp_drewN] | rw [hp_alloc_size] | rw [hp_setCell_size] | rw [hp_alloc] | rw [hp_setCell] | rw [Option.map_some] | rw [upd_cells] | rw [List.set_cons_zero] | rw [List.set_cons_succ] | rfl))
  have hf0 : Fr [] W (W.alloc (.cells #[.int .i64 s, .slice a ns.length c] 24)) := by (repeat (first | exact Fr.refl _ _ | assumption | apply Fr.drewN | apply Fr.drew | apply Fr.alloc | refine Fr.setCell ?_ (Or.inr (by simp; try omega)) _))
  generalize W.alloc (.cells #[.int .i64 s, .slice a ns.length c] 24) = w0 at *
  refine (Load_calls (by have := Hl.out; omega) (Hvk.out.fr hf0)).mono ?_
  rintro e w1 ⟨hok, hno⟩
  by_cases hg : GoodQ s ns
  case neg =>
    obtain ⟨rfl, hf⟩ := hno hg
    have Hf := Lib.hid (hf0.trans0 hf)
    clear hf hok hno hg hbx hf0
    go_wp2_with fail
    refine (awake_calls _).mono ?_
    rintro e w2 ⟨rfl, hf⟩
    have Hf2 := Lib.hid (Hf.out.trans0 hf)
    clear hf Hf
    go_wp2
    go_ret
    exact ⟨rfl, Hf2.out⟩
  obtain ⟨b, F0, rfl, hS0, hf1, hF0⟩ := hok hg
  have Hg := Lib.hid hg
  have hb1 := (hf1.block _ (lt_of_block hbx) (by simp)).trans hbx
  have Hbx := Lib.hid hbx
  have Hf0 := Lib.hid hf0
  have Hf1 := Lib.hid hf1
  have HF0 := Lib.hid hF0
  have c0 := heap_eq_cell hb1 0
  have c1 := heap_eq_cell hb1 1
  simp at c0 c1
  clear hok hno hg hb1 hbx hf0 hf1 hF0 hd
  go_wp2
  have hbw : ∀ wr, Fr [] w0 wr → wr.heap[W.heap.size]? = some (.cells #[.int .i64 s, .slice a ns.length c] 24 (0, 0)) := fun wr h => (h.block _ (lt_of_block Hbx.out) (by simp)).trans Hbx.out
  have Hbw := Lib.hid hbw
  clear hbw
  go_loopw [28] (fun x wr => ∃ (k : Nat) (F' : List Nat), x = .int .i64 k ∧ k ≤ ns.length ∧ StoreAt wr b s ns F' ∧ Fr [] w0 wr ∧ (∀ x ∈ F', w0.heap.size ≤ x)) (fun x _ => ns.length - (intOf x).toNat)
  case atStart => exact ⟨0, F0, rfl, by omega, hS0, Hf1.out, HF0.out⟩
  case round =>
    obtain ⟨k, F', rfl, hk, hS', hf', hF'⟩ := hrel
    have hb' := Hbw.out _ hf'
    have c0 := heap_eq_cell hb' 0
    have c1 := heap_eq_cell hb' 1
    simp at c0 c1
    have hwlt : W.heap.size < wr.heap.size := lt_of_block hb'
    have Hf := Lib.hid hf'
    have HF := Lib.hid hF'
    have HB := Lib.hid hb'
    have HS := Lib.hid hS'
    clear hf' hF' hb' hS'
    by_cases hlt : k < ns.length
    · obtain ⟨x, hx⟩ : ∃ x, ns[k]? = some x := ⟨_, List.getElem?_eq_getElem hlt⟩
      obtain ⟨L, hL1, hL2, hL0, hLa, hLb, hLc, hLd, hj⟩ := node_down Hg.out hx
      have hki := kids_node (s := s) hx
      have hs1 : 2 ≤ s := Hg.out.1
      have hs2 : s ≤ 8 := Hg.out.2.1
      have hkl : k < 200 := by have := Hl.out; omega
      have Hx := Lib.hid hx
      have HL0 := Lib.hid hL0
      have HLa := Lib.hid hLa
      have HLb := Lib.hid hLb
      have HLc := Lib.hid hLc
      have HLd := Lib.hid hLd
      have Hj := Lib.hid hj
      have Hki := Lib.hid hki
      clear hx hL0 hLa hLb hLc hLd hj hki
      have hK := Kids_calls HS.out (s + k)
      rw [Hki.out] at hK
      simp only [kv] at hK
      have HK := Lib.hid hK
      clear hK
      go_wp2_with fail
      refine HK.out.mono ?_
      rintro e w2 ⟨rfl, hf2⟩
      have hS2 := HS.out.fr hf2 (by simp)
      have hF2 := HS.out.lt
      have hf2w := Hf.out.trans0 hf2
      have hsz2 := hf2.size
      have HS2 := Lib.hid hS2
      have HF2 := Lib.hid hF2
      have Hf2w := Lib.hid hf2w
      clear hS2 hF2 hf2 hf2w HK HS HB c0 c1
      go_wp2_with fail
      have hk3 : (w2.alloc (.cells #[.int .i64 x.a, .int .i64 x.b, .int .i64 x.c, .int .i64 x.d] 42)).heap[w2.heap.size]? = some (.cells #[.int .i64 x.a, .int .i64 x.b, .int .i64 x.c, .int .i64 x.d] 42 (0, 0)) := by (repeat (first | rw [if_pos (by omega)] | rw [if_neg (by omega)] | rw [hp_drew] | rw [hp_drewN] | rw [hp_alloc_size] | rw [hp_setCell_size] | rw [hp_alloc] | rw [hp_setCell] | rw [Option.map_some] | rw [upd_cells] | rw [List.set_cons_zero] | rw [List.set_cons_succ] | rfl))
      have hf3 : Fr [] w2 (w2.alloc (.cells #[.int .i64 x.a, .int .i64 x.b, .int .i64 x.c, .int .i64 x.d] 42)) := by (repeat (first | exact Fr.refl _ _ | assumption | apply Fr.drewN | apply Fr.drew | apply Fr.alloc | refine Fr.setCell ?_ (Or.inr (by simp; try omega)) _))
      generalize w2.alloc (.cells #[.int .i64 x.a, .int .i64 x.b, .int .i64 x.c, .int .i64 x.d] 42) = w3 at *
      have hS3 := HS2.out.fr hf3 (by simp)
      have hsz3 := hf3.size
      have Hf3w := Lib.hid (Hf2w.out.trans0 hf3)
      have Hk3 := Lib.hid hk3
      clear hf3 hk3 Hf2w HS2
      refine (Join_hit hS3 x Hj.out).mono ?_
      rintro e w4 ⟨rfl, F4, hS4, hf4, hF4⟩
      have hk4 := (hf4.block _ (lt_of_block Hk3.out) (fun h => by have := HF2.out _ h; omega)).trans Hk3.out
      have hf4w : Fr [] w0 w4 := Hf3w.out.trans hf4 fun y hy => .inr (HF.out y hy)
      have hF4w : ∀ y ∈ F4, w0.heap.size ≤ y := fun y hy => by
        have := Hf3w.out.size
        rcases hF4 y hy with h | h
        · exact HF.out y h
        · omega
      have hb4 := Hbw.out _ hf4w
      have Hk4 := Lib.hid hk4
      have Hf4w := Lib.hid hf4w
      have HF4w := Lib.hid hF4w
      have HS4 := Lib.hid hS4
      have k0 := heap_eq_cell hk4 0
      have k1 := heap_eq_cell hk4 1
      have k2 := heap_eq_cell hk4 2
      have k3 := heap_eq_cell hk4 3
      have c0 := heap_eq_cell hb4 0
      have c1 := heap_eq_cell hb4 1
      simp at c0 c1 k0 k1 k2 k3
      obtain ⟨g, off, rfl, hg, hc⟩ := Hav.out (by omega)
      obtain ⟨f0, f1, f2, f3⟩ := flat_get Hx.out
      rw [Nat.mul_comm] at f0 f1 f2 f3
      have hgw : ∀ j, w4.cell? ⟨g, off + j, none⟩ = W.cell? ⟨g, off + j, none⟩ := fun j => (Hf0.out.trans0 hf4w).cell (p := ⟨g, off + j, none⟩) hg (by simp)
      have e0 := (hgw _).trans (hc _ _ f0)
      have e1 := (hgw _).trans (hc _ _ f1)
      have e2 := (hgw _).trans (hc _ _ f2)
      have e3 := (hgw _).trans (hc _ _ f3)
      simp only [← Nat.add_assoc] at e1 e2 e3
      clear hf4 hF4 hk4 hf4w hF4w hb4 hS4 hS3 Hf3w HF2 Hk3 hg hc f0 f1 f2 f3 hgw HF Hf
      go_wp2
      (refine wp_region_text (by kernel_rfl) (by kernel_rfl) ?_)
      go_wp2
      refine Strict.intro rfl ?_
      go_wp2
      have hLev : ∀ (w1 : World) (id r : Int), Drew w4 w1 → lvl s (levs s ns) id = r → Calls Try.prog 20 #[.pointer (some ⟨b, 0, none⟩), .int .i64 id] w1 fun e w' => e = .returned (.int .i64 r) ∧ ∃ n, w' = w1.drewN n := fun w1 id r hd hr => by
        have := Level_calls (HS4.out.drew hd) id
        rw [hr] at this
        exact this
      have HLev := Lib.hid hLev
      clear hLev e0 e1 e2 e3
      refine wp_loop_rounds 5 ?_
      rw [rounds_succ]
      go_wp2_with fail
      refine (HLev.out _ _ _ (by repeat (first | exact Drew.refl _ | apply Drew.drewN | apply Drew.drew)) HLa.out).mono ?_
      rintro e w' ⟨rfl, n, rfl⟩
      go_wp2_with fail
      refine (HLev.out _ _ _ (by repeat (first | exact Drew.refl _ | apply Drew.drewN | apply Drew.drew)) HL0.out).mono ?_
      rintro e w' ⟨rfl, n, rfl⟩
      go_wp2
      rw [rounds_succ]
      go_wp2_with fail
      refine (HLev.out _ _ _ (by repeat (first | exact Drew.refl _ | apply Drew.drewN | apply Drew.drew)) HLb.out).mono ?_
      rintro e w' ⟨rfl, n, rfl⟩
      go_wp2_with fail
      refine (HLev.out _ _ _ (by repeat (first | exact Drew.refl _ | apply Drew.drewN | apply Drew.drew)) HL0.out).mono ?_
      rintro e w' ⟨rfl, n, rfl⟩
      go_wp2
      rw [rounds_succ]
      go_wp2_with fail
      refine (HLev.out _ _ _ (by repeat (first | exact Drew.refl _ | apply Drew.drewN | apply Drew.drew)) HLc.out).mono ?_
      rintro e w' ⟨rfl, n, rfl⟩
      go_wp2_with fail
      refine (HLev.out _ _ _ (by repeat (first | exact Drew.refl _ | apply Drew.drewN | apply Drew.drew)) HL0.out).mono ?_
      rintro e w' ⟨rfl, n, rfl⟩
      go_wp2
      rw [rounds_succ]
      go_wp2_with fail
      refine (HLev.out _ _ _ (by repeat (first | exact Drew.refl _ | apply Drew.drewN | apply Drew.drew)) HLd.out).mono ?_
      rintro e w' ⟨rfl, n, rfl⟩
      go_wp2_with fail
      refine (HLev.out _ _ _ (by repeat (first | exact Drew.refl _ | apply Drew.drewN | apply Drew.drew)) HL0.out).mono ?_
      rintro e w' ⟨rfl, n, rfl⟩
      go_wp2
      rw [rounds_succ]
      go_wp2
      go_roundw
      case rel =>
        have hd : Fr [] w0 w4 := Hf4w.out
        refine ⟨k + 1, F4, by go_num, by omega, HS4.out.drew ?_, by (repeat (first | exact Fr.refl _ _ | assumption | apply Fr.drewN | apply Fr.drew | apply Fr.alloc | refine Fr.setCell ?_ (Or.inr (by simp; try omega)) _)), HF4w.out⟩
        repeat (first | exact Drew.refl _ | apply Drew.drewN | apply Drew.drew)
      case measure => simp [intOf]; omega
    · obtain rfl : k = ns.length := by omega
      go_wp2
      refine wp_region_segs [([0, 2, 1], [2]), ([3, 4, 5, 6, 7], [])] (by kernel_rfl) (by kernel_rfl) ?_
      (simp only [wpSegs, pick, Array.getD_eq_getD_getElem?, List.getElem?_toArray, List.getElem?_cons_succ, List.getElem?_cons_zero, Option.getD_some])
      go_wp2_with fail
      refine (Data_calls (HS.out.drew (Drew.refl _).drew)).mono ?_
      rintro e w5 ⟨v, rfl, ho, hf5⟩
      obtain ⟨va, vc, rfl, _⟩ := owns_form ho
      have hr5 := Reads.of_owns ho
      have hf5w : Fr [] w0 w5 := (Hf.out.drew).trans0 hf5
      have hb5 := Hbw.out _ hf5w
      have hq5 := Hvk.out.fr (Hf0.out.trans0 hf5w)
      have hsame : sameQ s s ns ns = true := by simp [sameQ]
      have HS5 := Lib.hid hr5
      have Hq5 := Lib.hid hq5
      have Hb5 := Lib.hid hb5
      have Hf5w := Lib.hid hf5w
      have Hsame := Lib.hid hsame
      have c0 := heap_eq_cell hb5 0
      have c1 := heap_eq_cell hb5 1
      simp at c0 c1
      clear ho hf5 hf5w hb5 hq5 hr5 hsame HS HB HF Hf
      go_wp2
      refine Mid.intro ⟨⟨again_row (T := 24) (cs := [.int .i64 s, .slice a ns.length c]) rfl rfl rfl Try.underlying24 rfl (by kernel_rfl) (fun j v hj => ?rng) rfl, trivial⟩, ?_⟩
      case rng =>
        rw [Nat.zero_add, heap_eq_cell Hb5.out, ← hj]
        exact (Array.getElem?_toList (xs := #[Value.int .i64 s, .slice a ns.length c])).symm
      go_wp2_with fail
      refine (Same_ref (by have := Hl.out; omega) HS5.out Hq5.out).mono ?_
      rintro e w6 ⟨rfl, o1, o2, n, rfl⟩
      rw [Hsame.out]
      go_wp2_with fail
      refine (awake_calls _).mono ?_
      rintro e w7 ⟨rfl, hf7⟩
      have hf7w : Fr [] W w7 := (Hf0.out.trans0 ((((Hf5w.out.alloc o1).alloc o2).drewN n))).trans0 hf7
      have Hf7w := Lib.hid hf7w
      clear hf7 hf7w
      go_wp2
      refine Mid.intro ⟨trivial, Strict.intro rfl ?_⟩
      go_wp2
      go_ret
      exact ⟨rfl, Hf7w.out⟩
end Go.Proofs.Ytgcompnpjpmanaa
