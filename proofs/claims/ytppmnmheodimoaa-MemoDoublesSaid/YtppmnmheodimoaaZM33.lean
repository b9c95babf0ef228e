/- Own texts of this claim, part 34: no condition. -/
import Derived.Test.YtppmnmheodimoaaZM13
section
/- The reference's store of layer 25: Join. -/
namespace Go.Proofs.Ytppmnmheodimoaa
set_option linter.unusedVariables false
set_option linter.unusedSimpArgs false
open Go Go.RowKit Go.Proofs.Rg Go.Proofs.Mp Go.Proofs.Hp Go.Proofs.Qs
/-- what a call of the reference's store that returns two numbers leaves -/
def RTwo (w : World) (b : Nat) (s : Int) (r : (Int × Int) × List K4) (F : List Nat) (e : Ending) (w' : World) : Prop :=
  e = .returned (.tuple #[.int .i64 r.1.1, .int .i64 r.1.2]) ∧ ∃ F', RefAt w' b s r.2 F' ∧ Fr F w w' ∧ (∀ x ∈ F', x ∈ F ∨ w.heap.size ≤ x)
theorem RTwo.same {w w' : World} {b : Nat} {s : Int} {ns : List K4} {F : List Nat} {r e : Int} {t : (Int × Int) × List K4} (hS : RefAt w b s ns F) (hf : Fr [] w w') (ht : t = ((r, e), ns)) : RTwo w b s t F (.returned (.tuple #[.int .i64 r, .int .i64 e])) w' := by
  subst ht
  exact ⟨rfl, F, hS.fr hf (by simp), hf.mono (by simp), fun x hx => .inl hx⟩
set_option maxHeartbeats 16000000 in
set_option maxRecDepth 100000 in
theorem RJoin_calls {w : World} {b : Nat} {s : Int} {ns : List K4} {F : List Nat} (hS : RefAt w b s ns F) (hlen : ns.length < 90000) (x : K4) :
    Calls Try.prog 69 #[.pointer (some ⟨b, 0, none⟩), .int .i64 x.a, .int .i64 x.b, .int .i64 x.c, .int .i64 x.d] w (RTwo w b s (join s ns x) F) := by
  have HS := Lib.hid hS
  have Hlen := Lib.hid hlen
  clear hlen
  obtain ⟨hgood, nv, hI, rfl⟩ := hS
  obtain ⟨na, nc, rfl, _, _⟩ := owns_form hI.nodes
  have hs1 : 2 ≤ s := hgood.1
  have hs2 : s ≤ 8 := hgood.2.1
  have Hgood := Lib.hid hgood
  have HI := Lib.hid hI
  clear hgood hI
  have hblt : b < w.heap.size := lt_of_block HI.out.blk
  obtain ⟨la, hla⟩ : ∃ la, la = lvl s (levs s ns) x.a := ⟨_, rfl⟩
  obtain ⟨lb, hlb⟩ : ∃ lb, lb = lvl s (levs s ns) x.b := ⟨_, rfl⟩
  obtain ⟨lc, hlc⟩ : ∃ lc, lc = lvl s (levs s ns) x.c := ⟨_, rfl⟩
  obtain ⟨ld, hld⟩ : ∃ ld, ld = lvl s (levs s ns) x.d := ⟨_, rfl⟩
  obtain ⟨fi, hfi⟩ : ∃ fi, fi = findR ns x := ⟨_, rfl⟩
  have Hla := Lib.hid hla
  have Hlb := Lib.hid hlb
  have Hlc := Lib.hid hlc
  have Hld := Lib.hid hld
  have Hfi := Lib.hid hfi
  clear hla hlb hlc hld hfi
  have hj1 : (la < 0 ∨ lb < 0 ∨ lc < 0 ∨ ld < 0) → join s ns x = ((0, 13), ns) := fun h => by
    rw [Hla.out, Hlb.out, Hlc.out, Hld.out] at h
    unfold join; rw [if_pos h]
  have hj2 : ¬ (la < 0 ∨ lb < 0 ∨ lc < 0 ∨ ld < 0) → ¬ (la < 256 ∧ lb = la ∧ lc = la ∧ ld = la) → join s ns x = ((0, 18), ns) := fun h h' => by
    rw [Hla.out, Hlb.out, Hlc.out, Hld.out] at h
    rw [Hla.out, Hlb.out, Hlc.out, Hld.out] at h'
    unfold join; rw [if_neg h, if_pos fun hf => h' ⟨hf.2.1, hf.2.2.1, hf.2.2.2.1, hf.2.2.2.2⟩]
  have hj3 : 0 ≤ la → la < 256 → lb = la → lc = la → ld = la → Fits s ns x ∧ join s ns x = joinIn s ns x := fun h0 h1 h2 h3 h4 => by
    have ha := Hla.out
    have hb := Hlb.out
    have hc := Hlc.out
    have hd := Hld.out
    have hfit : Fits s ns x := ⟨by omega, by omega, by omega, by omega, by omega⟩
    refine ⟨hfit, ?_⟩
    unfold join; rw [if_neg (by omega), if_neg fun hn => hn hfit]
  have Hj1 := Lib.hid hj1
  have Hj2 := Lib.hid hj2
  have Hj3 := Lib.hid hj3
  clear hj1 hj2 hj3
  go_enter Try.func69, Try.ntmps69
  go_wp2
  have hk3 : (w.alloc (.cells #[.int .i64 x.a, .int .i64 x.b, .int .i64 x.c, .int .i64 x.d] 75)).heap[w.heap.size]? = some (.cells #[.int .i64 x.a, .int .i64 x.b, .int .i64 x.c, .int .i64 x.d] 75 (0, 0)) := by (repeat (first | rw [if_pos (by omega)] | rw [if_neg (by omega)] | rw [hp_drew] | rw [hp_drewN] | rw [hp_alloc_size] | rw [hp_setCell_size] | rw [hp_alloc] | rw [hp_setCell] | rw [Option.map_some] | rw [upd_cells] | rw [List.set_cons_zero] | rw [List.set_cons_succ] | rfl))
  have hf3 : Fr [] w (w.alloc (.cells #[.int .i64 x.a, .int .i64 x.b, .int .i64 x.c, .int .i64 x.d] 75)) := by (repeat (first | exact Fr.refl _ _ | assumption | apply Fr.drewN | apply Fr.drew | apply Fr.alloc | refine Fr.setCell ?_ (Or.inr (by simp; try omega)) _))
  generalize w.alloc (.cells #[.int .i64 x.a, .int .i64 x.b, .int .i64 x.c, .int .i64 x.d] 75) = w3 at *
  have hcells : ∀ w', Fr [] w3 w' → w'.cell? ⟨b, 0, none⟩ = some (.int .i64 s) ∧ w'.cell? ⟨b, 1, none⟩ = some (.slice na ns.length nc) ∧ w'.cell? ⟨w.heap.size, 0, none⟩ = some (.int .i64 x.a) ∧ w'.cell? ⟨w.heap.size, 1, none⟩ = some (.int .i64 x.b) ∧
      w'.cell? ⟨w.heap.size, 2, none⟩ = some (.int .i64 x.c) ∧ w'.cell? ⟨w.heap.size, 3, none⟩ = some (.int .i64 x.d) := fun w' hf' => by
    have hp := ((hf3.trans0 hf').block _ (lt_of_block HI.out.blk) (by simp)).trans HI.out.blk
    have hq := (hf'.block _ (lt_of_block hk3) (by simp)).trans hk3
    exact ⟨heap_eq_cell hp 0, heap_eq_cell hp 1, heap_eq_cell hq 0, heap_eq_cell hq 1, heap_eq_cell hq 2, heap_eq_cell hq 3⟩
  have hR : ∀ w1, Fr [] w3 w1 → Reads w1 (.slice na ns.length nc) ns.length 4 (flat ns) := fun w1 hf1 => (Reads.of_owns HI.out.nodes).fr (hf3.trans0 hf1)
  have hLev : ∀ (w1 : World) (id l : Int), l = lvl s (levs s ns) id → Fr [] w3 w1 → Calls Try.prog 65 #[.agg #[.int .i64 s, .slice na ns.length nc], .int .i64 id] w1 fun e w' => e = .returned (.int .i64 l) ∧ Fr [] w3 w' ∧ w'.cell? ⟨b, 0, none⟩ = some (.int .i64 s) ∧ w'.cell? ⟨b, 1, none⟩ = some (.slice na ns.length nc) ∧ w'.cell? ⟨w.heap.size, 0, none⟩ = some (.int .i64 x.a) ∧ w'.cell? ⟨w.heap.size, 1, none⟩ = some (.int .i64 x.b) ∧
      w'.cell? ⟨w.heap.size, 2, none⟩ = some (.int .i64 x.c) ∧ w'.cell? ⟨w.heap.size, 3, none⟩ = some (.int .i64 x.d) := fun w1 id l hl1 hf1 => by
    refine (level_ref Hgood.out (hR w1 hf1) id).mono ?_
    rintro e w' ⟨rfl, o, rfl⟩
    exact ⟨by rw [hl1], hf1.alloc o, hcells _ (hf1.alloc o)⟩
  have hFind : ∀ (w1 : World), Fr [] w3 w1 → Calls Try.prog 66 #[.agg #[.int .i64 s, .slice na ns.length nc], .agg #[.int .i64 x.a, .int .i64 x.b, .int .i64 x.c, .int .i64 x.d]] w1 fun e w' => e = .returned (.int .i64 fi) ∧ Fr [] w3 w' ∧ w'.cell? ⟨b, 0, none⟩ = some (.int .i64 s) ∧ w'.cell? ⟨b, 1, none⟩ = some (.slice na ns.length nc) ∧ w'.cell? ⟨w.heap.size, 0, none⟩ = some (.int .i64 x.a) ∧ w'.cell? ⟨w.heap.size, 1, none⟩ = some (.int .i64 x.b) ∧
      w'.cell? ⟨w.heap.size, 2, none⟩ = some (.int .i64 x.c) ∧ w'.cell? ⟨w.heap.size, 3, none⟩ = some (.int .i64 x.d) := fun w1 hf1 => by
    refine (find_ref (s := s) (by have := Hlen.out; omega) (hR w1 hf1) x).mono ?_
    rintro e w' ⟨rfl, o1, o2, n, rfl⟩
    exact ⟨by rw [Hfi.out], ((hf1.alloc o1).alloc o2).drewN n, hcells _ (((hf1.alloc o1).alloc o2).drewN n)⟩
  have hcs := hcells w3 (Fr.refl _ _)
  have HLev := Lib.hid hLev
  have HFind := Lib.hid hFind
  have Hf3 := Lib.hid hf3
  have Hk3 := Lib.hid hk3
  clear hLev hFind hcells hf3 hk3 hR
  obtain ⟨b0, b1, k0, k1, k2, k3⟩ := hcs
  refine wp_loop_rounds 5 ?_
  rw [rounds_succ]
  go_wp2
  (refine wp_region_text (by kernel_rfl) (by kernel_rfl) ?_)
  go_wp2_with fail
  clear b0 b1 k0 k1 k2 k3
  refine (HLev.out _ _ _ Hla.out (Fr.refl _ _).drew).mono ?_
  rintro e w4 ⟨rfl, hf, b0, b1, k0, k1, k2, k3⟩
  have Hf_w4 := Lib.hid hf
  clear hf
  go_wp2
  refine Strict.intro rfl ?_
  go_wp2
  any_goals (go_ret2; exact RTwo.same HS.out (Hf3.out.trans0 Hf_w4.out) (Hj1.out (by omega)))
  rw [rounds_succ]
  go_wp2
  (refine wp_region_text (by kernel_rfl) (by kernel_rfl) ?_)
  go_wp2_with fail
  clear b0 b1 k0 k1 k2 k3
  refine (HLev.out _ _ _ Hlb.out Hf_w4.out.drew).mono ?_
  rintro e w5 ⟨rfl, hf, b0, b1, k0, k1, k2, k3⟩
  have Hf_w5 := Lib.hid hf
  clear hf
  go_wp2
  refine Strict.intro rfl ?_
  go_wp2
  any_goals (go_ret2; exact RTwo.same HS.out (Hf3.out.trans0 Hf_w5.out) (Hj1.out (by omega)))
  rw [rounds_succ]
  go_wp2
  (refine wp_region_text (by kernel_rfl) (by kernel_rfl) ?_)
  go_wp2_with fail
  clear b0 b1 k0 k1 k2 k3
  refine (HLev.out _ _ _ Hlc.out Hf_w5.out.drew).mono ?_
  rintro e w6 ⟨rfl, hf, b0, b1, k0, k1, k2, k3⟩
  have Hf_w6 := Lib.hid hf
  clear hf
  go_wp2
  refine Strict.intro rfl ?_
  go_wp2
  any_goals (go_ret2; exact RTwo.same HS.out (Hf3.out.trans0 Hf_w6.out) (Hj1.out (by omega)))
  rw [rounds_succ]
  go_wp2
  (refine wp_region_text (by kernel_rfl) (by kernel_rfl) ?_)
  go_wp2_with fail
  clear b0 b1 k0 k1 k2 k3
  refine (HLev.out _ _ _ Hld.out Hf_w6.out.drew).mono ?_
  rintro e w7 ⟨rfl, hf, b0, b1, k0, k1, k2, k3⟩
  have Hf_w7 := Lib.hid hf
  clear hf
  go_wp2
  refine Strict.intro rfl ?_
  go_wp2
  any_goals (go_ret2; exact RTwo.same HS.out (Hf3.out.trans0 Hf_w7.out) (Hj1.out (by omega)))
  rw [rounds_succ]
  go_wp2_with fail
  clear b0 b1 k0 k1 k2 k3
  refine (HLev.out _ _ _ Hla.out Hf_w7.out).mono ?_
  rintro e w8 ⟨rfl, hf, b0, b1, k0, k1, k2, k3⟩
  have Hf_w8 := Lib.hid hf
  clear hf
  go_wp2_with fail
  any_goals (go_ret2; exact RTwo.same HS.out (Hf3.out.trans0 Hf_w8.out) (Hj2.out (by omega) (by omega)))
  clear b0 b1 k0 k1 k2 k3
  refine (HLev.out _ _ _ Hlb.out Hf_w8.out).mono ?_
  rintro e w9 ⟨rfl, hf, b0, b1, k0, k1, k2, k3⟩
  have Hf_w9 := Lib.hid hf
  clear hf
  go_wp2_with fail
  any_goals (go_ret2; exact RTwo.same HS.out (Hf3.out.trans0 Hf_w9.out) (Hj2.out (by omega) (by omega)))
  clear b0 b1 k0 k1 k2 k3
  refine (HLev.out _ _ _ Hlc.out Hf_w9.out).mono ?_
  rintro e w10 ⟨rfl, hf, b0, b1, k0, k1, k2, k3⟩
  have Hf_w10 := Lib.hid hf
  clear hf
  go_wp2_with fail
  any_goals (go_ret2; exact RTwo.same HS.out (Hf3.out.trans0 Hf_w10.out) (Hj2.out (by omega) (by omega)))
  clear b0 b1 k0 k1 k2 k3
  refine (HLev.out _ _ _ Hld.out Hf_w10.out).mono ?_
  rintro e w11 ⟨rfl, hf, b0, b1, k0, k1, k2, k3⟩
  have Hf_w11 := Lib.hid hf
  clear hf
  go_wp2_with fail
  any_goals (go_ret2; exact RTwo.same HS.out (Hf3.out.trans0 Hf_w11.out) (Hj2.out (by omega) (by (first | omega | (simp only [bne_iff_ne, ne_eq, beq_iff_eq, bne_eq_false_iff_eq, beq_eq_false_iff_ne, decide_eq_true_eq, decide_eq_false_iff_not] at *; omega)))))
  have h9 : la < 256 ∧ (ld != la) = false := by assumption
  have h8 : ld = la := by simpa using h9.2
  obtain ⟨hfit, hjoin⟩ := Hj3.out (by omega) h9.1 (by assumption) (by assumption) h8
  clear h9
  have H8 := Lib.hid h8
  clear h8
  have Hfit := Lib.hid hfit
  have Hjoin := Lib.hid hjoin
  clear hfit hjoin Hj1 Hj2 Hj3
  (refine wp_region_text (by kernel_rfl) (by kernel_rfl) ?_)
  go_wp2_with fail
  clear b0 b1 k0 k1 k2 k3
  refine (HFind.out _ Hf_w11.out.drew).mono ?_
  rintro e w12 ⟨rfl, hf, b0, b1, k0, k1, k2, k3⟩
  have Hf12 := Lib.hid hf
  clear hf
  go_wp2
  refine Strict.intro rfl ?_
  have hhit : 0 ≤ fi → join s ns x = ((s + fi, 0), ns) ∧ fi < 90000 := fun h => by
    have h1 := Hfi.out
    unfold findR at h1
    cases hfind : ns.idxOf? x with
    | some i =>
      rw [hfind] at h1
      simp only at h1
      rw [List.idxOf?_eq_some_iff] at hfind
      have := hfind.1
      have := Hlen.out
      refine ⟨?_, by omega⟩
      rw [Hjoin.out, joinIn_hit (i := i), h1]
      rw [List.idxOf?_eq_some_iff]; exact hfind
    | none => rw [hfind] at h1; simp only at h1; omega
  have hmiss : fi < 0 → join s ns x = ((s + ns.length, 0), ns ++ [x]) ∧ x ∉ ns := fun h => by
    have h1 := Hfi.out
    unfold findR at h1
    cases hfind : ns.idxOf? x with
    | some i => rw [hfind] at h1; simp only at h1; omega
    | none =>
      have := Hlen.out
      exact ⟨by rw [Hjoin.out, joinIn_new hfind (by omega)], by simpa using hfind⟩
  have hd : decide ((100000 : Int) ≤ ↑ns.length) = false := by have := Hlen.out; simp; omega
  obtain ⟨i0, hi0, hi1, hi2, hi3⟩ := info_parts info_quad
  have hblk := ((Hf3.out.trans0 Hf12.out).block _ (lt_of_block HI.out.blk) (by simp)).trans HI.out.blk
  have p1 := heap_eq_frozen hblk 1
  have hown := owns_of_block HI.out.nodes fun y hy => (Hf3.out.trans0 Hf12.out).block y (owns_lt HI.out.nodes hy) (by simp)
  have hb12 : b < w12.heap.size := lt_of_block hblk
  have Hblk := Lib.hid hblk
  have Hown := Lib.hid hown
  have Hhit := Lib.hid hhit
  have Hmiss := Lib.hid hmiss
  clear hblk hown hhit hmiss
  by_cases hfi : 0 ≤ fi
  · obtain ⟨hj, hlt⟩ := Hhit.out hfi
    have Hj := Lib.hid hj
    clear hj
    go_wp2
    go_ret2
    exact RTwo.same HS.out (by have := Hf3.out.trans0 Hf12.out; (repeat (first | exact Fr.refl _ _ | assumption | apply Fr.drewN | apply Fr.drew | apply Fr.alloc | refine Fr.setCell ?_ (Or.inr (by simp; try omega)) _))) Hj.out
  · obtain ⟨hj, hnew⟩ := Hmiss.out (by omega)
    have Hj := Lib.hid hj
    have Hnew := Lib.hid hnew
    clear hj hnew
    go_wp2
    (refine wp_region_text (by kernel_rfl) (by kernel_rfl) ?_)
    go_wp2_with (at_builtin; refine append_quad (k := x) (n := ns.length) (base := 0) (xs := flat ns) rfl rfl rfl ?e1 rfl ?e2 ?e3 ?e4 ?_)
    case e1 => exact owns_of_block Hown.out fun y hy => by simp only [hp_drew]; exact heap_alloc_else _ _ _ (owns_lt Hown.out hy)
    case e2 => (repeat (first | rw [if_pos (by omega)] | rw [if_neg (by omega)] | rw [hp_drew] | rw [hp_drewN] | rw [hp_alloc_size] | rw [hp_setCell_size] | rw [hp_alloc] | rw [hp_setCell] | rw [Option.map_some] | rw [upd_cells] | rw [List.set_cons_zero] | rw [List.set_cons_succ] | rfl))
    case e3 => have := Hlen.out; omega
    case e4 => omega
    intro g cap w9 hown1 hW1 hF1 hloc1 hg1
    have hb9 : w9.heap[b]? = some (.cells #[.int .i64 s, .slice na ns.length nc] 95 (0, 0)) := by
      rw [hW1 b (by omega) HI.out.ne]
      show (World.alloc _ _).heap[b]? = _
      rw [heap_alloc_else _ _ _ hb12]
      exact Hblk.out
    have o0 := heap_eq_cell hb9 0
    have o1 := heap_eq_cell hb9 1
    have q1 := heap_eq_frozen hb9 1
    have hlt9 := lt_of_block hb9
    have Hown1 := Lib.hid hown1
    have HW1 := Lib.hid hW1
    have HF1 := Lib.hid hF1
    have Hloc := Lib.hid hloc1
    have Hb9 := Lib.hid hb9
    have hl9 : ns.length < 90000 := Hlen.out
    have hgb : g ≠ b := fun e => by
      rcases hloc1 with h | h
      · rw [e] at h; exact HI.out.ne h
      · omega
    clear hown1 hW1 hF1 hloc1 hb9
    go_wp2
    refine Strict.intro rfl ?_
    go_wp2
    (refine wp_region_text (by kernel_rfl) (by kernel_rfl) ?_)
    go_wp2
    refine Strict.intro rfl ?_
    go_wp2
    go_ret2
    refine ⟨?_, b :: [g], ⟨?_, .slice (some ⟨g, 0, none⟩) (ns.length + 1) cap, ⟨?_, ?_, ?_⟩, rfl⟩, ?_, ?_⟩
    · rw [Hj.out]
      show Ending.returned (.tuple #[.int .i64 _, .int .i64 0]) = Ending.returned (.tuple #[.int .i64 (s + ns.length), .int .i64 0])
      congr; omega
    · rw [Hj.out]
      exact Hgood.out.snoc Hfit.out Hnew.out (by omega)
    · (repeat (first | rw [if_pos (by omega)] | rw [if_neg (by omega)] | rw [hp_drew] | rw [hp_drewN] | rw [hp_alloc_size] | rw [hp_setCell_size] | rw [hp_alloc] | rw [hp_setCell] | rw [Option.map_some] | rw [upd_cells] | rw [List.set_cons_zero] | rw [List.set_cons_succ] | rfl))
      rw [Hb9.out]; rfl
    · rw [Hj.out]
      show World.ownsRow _ _ _ _ _ (ns ++ [x]).length (flat (ns ++ [x]))
      rw [flat_snoc, List.length_append]
      refine owns_of_block Hown1.out fun y hy => ?_
      have : g = y := by simpa [Value.ownBlock] using hy
      rw [hp_drew, hp_setCell, if_neg (by omega)]
    · intro e
      have : g = b := by simpa [Value.ownBlock] using e
      exact hgb this
    · have h1 : Fr (b :: (Value.slice na ns.length nc).ownBlock.toList) w w12 := (Hf3.out.trans0 Hf12.out).mono (by simp)
      have h2 := (h1.alloc (.cells #[.int .i64 x.a, .int .i64 x.b, .int .i64 x.c, .int .i64 x.d] 77)).drew.trans HF1.out (fun y hy => .inl (by simp [hy]))
      repeat (first | exact h2 | apply Fr.drewN | apply Fr.drew | refine Fr.setCell ?_ (.inl (by simp)) _)
    · intro y hy
      simp only [List.mem_cons, List.mem_nil_iff, or_false] at hy
      rcases hy with rfl | rfl
      · exact .inl (by simp)
      · rcases Hloc.out with h | h
        · exact .inl (by simp [h])
        · right
          have := (Hf3.out.trans0 Hf12.out).size
          omega
end Go.Proofs.Ytppmnmheodimoaa
end
