/- Sweep of package sweep. -/
import Derived.Test.YtgeomalefpjfdaaWr
namespace Go.Proofs.Ytgeomalefpjfdaa
open Go Go.RowKit Go.Proofs.Rg Go.Proofs.Mp Go.Proofs.Hp Go.Proofs.Qs
set_option linter.unusedVariables false
def SweepPost (w : World) (s : Int) (ns : List K4) (roots : List Int) (e : Ending) (w' : World) : Prop :=
  (marks s ns roots = none → e = .returned (.tuple #[.pointer none, .slice none 0 0, .int .i64 13]) ∧ Fr [] w w') ∧
  ∀ m, marks s ns roots = some m → ∃ b F v, e = .returned (.tuple #[.pointer (some ⟨b, 0, none⟩), v, .int .i64 0]) ∧ StoreAt w' b s (sw s ns m ns.length).2 F ∧
    w'.ownsRow w.heap.size 3 1 v roots.length (i64s (roots.map (geti (sw s ns m ns.length).1))) ∧ Fr [] w w' ∧ (∀ x ∈ F, w.heap.size ≤ x) ∧ ∀ x ∈ F, v.ownBlock ≠ some x
theorem Sweep_nil (rv : Value) (w : World) : Calls Try.prog 16 #[.pointer none, rv] w fun e w' => e = .returned (.tuple #[.pointer none, .slice none 0 0, .int .i64 1]) ∧ Fr [] w w' := by
  go_enter Try.func16, Try.ntmps16
  go_wp2
  (try simp only [Exit.inBlock, Exit.then])
  refine bodyPost_ret (v := .tuple #[.pointer none, .slice none 0 0, .int .i64 1]) (by simp [results, Try.results16, go_sem]) rfl ⟨rfl, Fr.refl _ _⟩
theorem i64s_seti (t : List Int) (j v : Int) : i64s (seti t j v) = (i64s t).set j.toNat (.int .i64 v) := by unfold i64s seti; rw [List.map_set]
theorem i64s_get {t : List Int} {n : Nat} (h : n < t.length) : (i64s t)[n]? = some (.int .i64 (geti t n)) := by
  unfold i64s geti
  rw [List.getElem?_map, List.getElem?_eq_getElem h, List.getD_eq_getElem?_getD, show ((n : Int)).toNat = n from rfl, List.getElem?_eq_getElem h]; rfl
theorem names0_zero (n : Nat) : names0 0 n = List.replicate n 0 := by
  apply List.ext_getElem
  · simp [names0]
  · intro i h1 h2
    simp [names0]
    omega
theorem names0_succ (k n : Nat) : names0 ((k : Int) + 1) n = seti (names0 k n) k k := by
  apply List.ext_getElem
  · simp [names0, seti]
  · intro i h1 h2
    simp only [names0, seti, List.getElem_set, List.getElem_map, List.getElem_range, Int.toNat_natCast]
    by_cases h : k = i
    · rw [if_pos h, if_pos (by omega)]; omega
    · rw [if_neg h]
      by_cases h3 : (i : Int) < k
      · rw [if_pos h3, if_pos (by omega)]
      · rw [if_neg h3, if_neg (by omega)]
set_option maxHeartbeats 16000000 in
set_option maxRecDepth 100000 in
theorem Sweep_calls {w : World} {b : Nat} {s : Int} {ns : List K4} {F : List Nat} {rv : Value} {roots : List Int} (hS : StoreAt w b s ns F) (hr : Reads w rv roots.length 1 (i64s roots)) (hlr : roots.length ≤ 1000000) :
    Calls Try.prog 16 #[.pointer (some ⟨b, 0, none⟩), rv] w (SweepPost w s ns roots) := by
  have hg := hS.1
  have hs1 := hg.1
  have hs2 := hg.2.1
  have hln := hg.2.2.1
  obtain ⟨S, rfl⟩ : ∃ S : Nat, s = S := ⟨s.toNat, by omega⟩
  have Hg := Lib.hid hg
  have HS := Lib.hid hS
  have Hr := Lib.hid hr
  have HLR := Lib.hid hlr
  clear hS hr hlr hg
  go_enter Try.func16, Try.ntmps16
  go_wp2_with fail
  refine (Data_calls HS.out).mono ?_
  rintro e w1 ⟨v, rfl, ho, hf⟩
  obtain ⟨va, vc, rfl, hva, _⟩ := owns_form ho
  have Ho := Lib.hid ho
  have Hf := Lib.hid hf
  have Hva := Lib.hid hva
  clear ho hf hva
  go_wp2_with fail
  obtain ⟨b7, hb7⟩ : ∃ x, x = w1.heap.size := ⟨_, rfl⟩
  have hq : ∀ w3, Fr [] w1 w3 → Calls Try.prog 28 #[.agg #[.int .i64 S, .slice va ns.length vc], rv] w3 (MarkPost w3 S ns roots) := fun w3 hf3 =>
    marked_calls Hg.out ((Reads.of_owns Ho.out).fr hf3) ((Hr.out.fr Hf.out).fr hf3) HLR.out
  refine (hq _ (by (repeat (first | exact Fr.refl _ _ | assumption | apply Fr.drewN | apply Fr.drew | apply Fr.alloc | refine Fr.setCell ?_ (Or.inr (by simp; try omega)) _)))).mono ?_
  clear hq
  rintro e w2 ⟨h1, h2⟩
  have H1 := Lib.hid h1
  have H2 := Lib.hid h2
  clear h1 h2
  cases hm : marks S ns roots with
  | none =>
    obtain ⟨rfl, h2⟩ := H1.out hm
    have Hf2 := Lib.hid h2
    have Hm := Lib.hid hm
    clear h2 hm
    go_wp2
    (try simp only [Exit.inBlock, Exit.then])
    refine bodyPost_ret (v := .tuple #[.pointer none, .slice none 0 0, .int .i64 13]) (by simp [results, Try.results16, go_sem]) rfl ⟨fun _ => ⟨rfl, ?_⟩, fun m h => (by rw [Hm.out] at h; cases h)⟩
    have h0 := Hf.out
    refine Fr.trans0 ?_ Hf2.out
    (repeat (first | exact Fr.refl _ _ | assumption | apply Fr.drewN | apply Fr.drew | apply Fr.alloc | refine Fr.setCell ?_ (Or.inr (by simp; try omega)) _))
  | some m =>
    obtain ⟨mv, rfl, ho2, h2⟩ := H2.out m hm
    have hmk := marks_marked Hg.out hm
    have hml := hmk.len
    have Hmk := Lib.hid hmk
    have Hm := Lib.hid hm
    obtain ⟨N, hN⟩ : ∃ N, N = m.length := ⟨_, rfl⟩
    have HNi := Lib.hid (show (N : Int) = S + ns.length by omega)
    have hNb : N ≤ 200000 := by omega
    have hNp : 0 < N := by omega
    have hSN : S ≤ N := by omega
    rw [← hN] at ho2
    have HNm := Lib.hid hN
    have hb7 : w2.heap[w1.heap.size]? = some (.cells #[.int .i64 S, .slice va ns.length vc] 24 (0, 0)) := (h2.block _ (by rw [hp_alloc_size]; omega) (by simp)).trans (by (repeat (first | rw [if_pos (by omega)] | rw [if_neg (by omega)] | rw [hp_drew] | rw [hp_drewN] | rw [hp_alloc_size] | rw [hp_setCell_size] | rw [hp_alloc] | rw [hp_setCell] | rw [Option.map_some] | rw [upd_cells] | rw [List.set_cons_zero] | rw [List.set_cons_succ] | rfl)))
    have hb7l := lt_of_block hb7
    have hrd := (((Reads.of_owns Ho.out).fr ((Fr.refl [] w1).alloc _)).fr h2)
    have hrr := (((Hr.out.fr Hf.out).fr ((Fr.refl [] w1).alloc _)).fr h2)
    have hfw : Fr [] w w2 := Fr.trans0 (by have := Hf.out; (repeat (first | exact Fr.refl _ _ | assumption | apply Fr.drewN | apply Fr.drew | apply Fr.alloc | refine Fr.setCell ?_ (Or.inr (by simp; try omega)) _))) h2
    have hmr := Reads.of_owns ho2
    obtain ⟨ma, mc, rfl, hma, _⟩ := owns_form ho2
    obtain ⟨g2, rfl⟩ := hma hNp
    have hg2 := owns_lt ho2 rfl
    have hmc : ∀ i : Nat, i < N → w2.cell? ⟨g2, i, none⟩ = some (.bool (at' m i)) := fun i hi => owns_cell ho2 rfl (by
      rw [bos, List.getElem?_map, List.getElem?_eq_getElem (by omega)]
      unfold at'
      rw [List.getD_eq_getElem?_getD, show ((i : Int)).toNat = i from rfl, List.getElem?_eq_getElem (by omega)]; rfl)
    have Hb7 := Lib.hid hb7
    have Hrd := Lib.hid hrd
    have Hrr := Lib.hid hrr
    have Hfw := Lib.hid hfw
    have Hmc := Lib.hid hmc
    have k0 := heap_eq_cell hb7 0
    have k1 := heap_eq_cell hb7 1
    clear hm h2 hmk hml hN ho2 hb7 hrd hrr hfw hmr hma hmc H1 H2
    go_wp2_with (refine wpList_make1 rfl (t := 25) (e := 3) (n := N) (z := .int .i64 0) (bytes := 8) rfl rfl rfl Try.underlying25 info_i64 rfl ?e1 ?e2 ?_)
    case e1 => omega
    case e2 => unfold maxLen; omega
    clear k0 k1
    intro w3 ho3 hf3 hsz3
    have hb3 := (hf3.block _ hb7l (by simp)).trans Hb7.out
    have k0 := heap_eq_cell hb3 0
    have hb3l := lt_of_block hb3
    have Ho3 := Lib.hid ho3
    have Hf3 := Lib.hid hf3
    clear ho3 hf3 hb3
    go_wp2_with fail
    clear k0 hb3l
    go_loopw [34] (fun x wl => ∃ (k : Nat), x = .int .i64 k ∧ k ≤ S ∧ wl.ownsRow w2.heap.size 3 1 (.slice (some ⟨w2.heap.size, 0, none⟩) N N) N (i64s (names0 k N)) ∧ Fr [] w2 wl) (fun x _ => S - (intOf x).toNat)
    case atStart => exact ⟨0, rfl, by omega, by have := Ho3.out; rwa [show i64s (names0 ((0 : Nat) : Int) N) = List.replicate N (.int .i64 0) by rw [show ((0 : Nat) : Int) = 0 from rfl, names0_zero]; simp [i64s]], Hf3.out⟩
    case round =>
      obtain ⟨k, rfl, hk, ho, hf⟩ := hrel
      have hol := owns_lt ho rfl
      by_cases hlt : k < S
      · have hkN : k < N := by omega
        have hc := owns_cell ho rfl (i64s_get (t := names0 k N) (n := k) (by rw [names0_length]; omega))
        have hz := owns_frozen ho rfl k
        have Ho4 := Lib.hid ho
        have Hf4 := Lib.hid hf
        clear ho hf
        go_wp2
        go_roundw
        case rel =>
          refine ⟨k + 1, by go_num, by omega, ?_, Hf4.out.setCell (.inr (by simp)) _⟩
          rw [show ((k + 1 : Nat) : Int) = (k : Int) + 1 by omega, names0_succ, i64s_seti]
          exact owns_set Ho4.out rfl (by rw [Ho4.out.1]; simp; omega) _
        case measure => simp [intOf]; omega
      · obtain rfl : S = k := by omega
        have hb4 := (hf.block _ hb7l (by simp)).trans Hb7.out
        have k0 := heap_eq_cell hb4 0
        have k1 := heap_eq_cell hb4 1
        have hb4l := lt_of_block hb4
        have Ho4 := Lib.hid ho
        have Hf4 := Lib.hid hf
        obtain ⟨wo, rfl⟩ : ∃ wo : World, wo = wr := ⟨_, rfl⟩
        clear ho hf hb4
        go_wp2_with fail
        clear k0 k1 hb4l
        have hM0 : (sw S ns m 0) = (names0 S N, []) := by show (names0 S ((S : Int) + ns.length).toNat, []) = _; rw [show ((S : Int) + ns.length).toNat = N by have := HNi.out; omega]
        have HM0 := Lib.hid hM0
        clear hM0
        go_loopw [48] (fun x wl => ∃ (k : Nat) (nv : Value), x = .int .i64 k ∧ k ≤ ns.length ∧ wl.ownsRow w2.heap.size 3 1 (.slice (some ⟨w2.heap.size, 0, none⟩) N N) N (i64s (sw S ns m k).1) ∧
            wl.heap[wo.heap.size]? = some (.cells #[.int .i64 S, nv] 24 (0, 0)) ∧ wl.ownsRow (wo.heap.size + 1) 59 4 nv (sw S ns m k).2.length (flat (sw S ns m k).2) ∧ Fr [] w2 wl) (fun x _ => ns.length - (intOf x).toNat)
        case atStart =>
          have ho := Ho4.out
          have hf := Hf4.out
          refine ⟨0, .slice none 0 0, rfl, by omega, ?_, by (repeat (first | rw [if_pos (by omega)] | rw [if_neg (by omega)] | rw [hp_drew] | rw [hp_drewN] | rw [hp_alloc_size] | rw [hp_setCell_size] | rw [hp_alloc] | rw [hp_setCell] | rw [Option.map_some] | rw [upd_cells] | rw [List.set_cons_zero] | rw [List.set_cons_succ] | rfl)), ?_, by (repeat (first | exact Fr.refl _ _ | assumption | apply Fr.drewN | apply Fr.drew | apply Fr.alloc | refine Fr.setCell ?_ (Or.inr (by simp; try omega)) _))⟩
          · rw [HM0.out]
            exact owns_of_block ho fun y hy => heap_alloc_else _ _ _ (owns_lt ho hy)
          · rw [HM0.out]
            exact World.ownsRow_nil _ _ _ _
        case round =>
          obtain ⟨k, nv, rfl, hk, ho, hb, hn, hf⟩ := hrel
          have hb5 := (hf.block _ hb7l (by simp)).trans Hb7.out
          have k0 := heap_eq_cell hb5 0
          have k1 := heap_eq_cell hb5 1
          have hb5l := lt_of_block hb5
          have hob := lt_of_block hb
          have hol := owns_lt ho rfl
          have q0 := heap_eq_cell hb 0
          have q1 := heap_eq_cell hb 1
          obtain ⟨na, nc, rfl, _, _⟩ := owns_form hn
          have hlen := sw_len S ns m k
          have hnl := sw_names_len S ns m k
          by_cases hlt : k < ns.length
          · obtain ⟨x, hx⟩ : ∃ x, ns[k]? = some x := ⟨_, List.getElem?_eq_getElem hlt⟩
            obtain ⟨_, a', c', hsl, hcell⟩ := Hrd.out
            simp only [Value.slice.injEq] at hsl
            obtain ⟨rfl, _, rfl⟩ := hsl
            obtain ⟨g, off, rfl, hg, hc⟩ := hcell (by omega)
            obtain ⟨f0, f1, f2, f3⟩ := flat_get hx
            rw [Nat.mul_comm] at f0 f1 f2 f3
            have hgw : ∀ j, wr.cell? ⟨g, off + j, none⟩ = w2.cell? ⟨g, off + j, none⟩ := fun j => hf.cell (p := ⟨g, off + j, none⟩) hg (by simp)
            have e0 := (hgw _).trans (hc _ _ f0)
            have e1 := (hgw _).trans (hc _ _ f1)
            have e2 := (hgw _).trans (hc _ _ f2)
            have e3 := (hgw _).trans (hc _ _ f3)
            simp only [← Nat.add_assoc] at e1 e2 e3
            have hgr : g < wr.heap.size := by have := hf.size; omega
            have hSk : S + k < N := by have := HNi.out; omega
            have hmk := (hf.cell (p := ⟨g2, S + k, none⟩) hg2 (by simp)).trans (Hmc.out (S + k) hSk)
            have hg2r : g2 < wr.heap.size := by have := hf.size; omega
            have hcz := owns_cell ho rfl (i64s_get (t := (sw S ns m k).1) (n := S + k) (by omega))
            have hz := owns_frozen ho rfl (S + k)
            have hsw := sw_succ (s := S) (m := m) hx
            rw [swStep] at hsw
            have hren : ∀ u, ren (seti (sw S ns m k).1 ((S : Int) + k) u) x = ren (sw S ns m k).1 x := fun u => ren_eq fun j hj => by
              obtain ⟨a, b⟩ := has_lt Hg.out hx hj
              rw [geti_seti (by omega) (by omega) a, if_neg (by omega)]
            rw [show ((S + k : Nat) : Int) = (S : Int) + k by omega] at hmk
            have hkids := good_kids Hg.out hx
            generalize at' m ((S : Int) + k) = bt at *
            generalize hst : sw S ns m k = st at *
            obtain ⟨t, out⟩ := st
            simp only at *
            have Ho5 := Lib.hid ho
            have Hb5 := Lib.hid hb
            have Hn5 := Lib.hid hn
            have Hf5 := Lib.hid hf
            have Hsw := Lib.hid hsw
            have Hren := Lib.hid hren
            have Hkids := Lib.hid hkids
            have Hnl := Lib.hid hnl
            have Hx := Lib.hid hx
            clear ho hb hn hf hb5 hcell hc f0 f1 f2 f3 hgw hsw hren hkids hst hnl hx
            cases bt
            · go_wp2
              go_roundw
              case rel =>
                refine ⟨k + 1, .slice na out.length nc, by go_num, by omega, ?_⟩
                rw [Hsw.out, if_neg (by simp)]
                have ho := Ho5.out
                have hn := Hn5.out
                have hf := Hf5.out
                exact ⟨owns_of_block ho fun y hy => heap_alloc_else _ _ _ (owns_lt ho hy), (heap_alloc_else _ _ _ hob).trans Hb5.out, owns_of_block hn fun y hy => heap_alloc_else _ _ _ (owns_lt hn hy), by (repeat (first | exact Fr.refl _ _ | assumption | apply Fr.drewN | apply Fr.drew | apply Fr.alloc | refine Fr.setCell ?_ (Or.inr (by simp; try omega)) _))⟩
              case measure => simp [intOf]; omega
            · go_wp2_with fail
              obtain ⟨W5, hW5⟩ : ∃ W, W = (wr.setCell ⟨w2.heap.size, S + k, none⟩ (.int .i64 ((S : Int) + out.length))).alloc (.cells #[.int .i64 x.a, .int .i64 x.b, .int .i64 x.c, .int .i64 x.d] 59 (0, 0)) := ⟨_, rfl⟩
              rw [← hW5]
              obtain ⟨t', ht'⟩ : ∃ t', t' = seti t ((S : Int) + k) ((S : Int) + out.length) := ⟨_, rfl⟩
              have ho6 : W5.ownsRow w2.heap.size 3 1 (.slice (some ⟨w2.heap.size, 0, none⟩) N N) N (i64s t') := by
                have h1 := owns_set Ho5.out rfl (j := S + k) (by rw [Ho5.out.1]; omega) (.int .i64 ((S : Int) + out.length))
                rw [hW5, ht', i64s_seti, show ((S : Int) + k).toNat = S + k by omega]
                exact owns_of_block h1 fun y hy => heap_alloc_else _ _ _ (owns_lt h1 hy)
              have hf6 : Fr [] w2 W5 := by rw [hW5]; exact (Hf5.out.setCell (.inr (by simp)) _).alloc _
              have hb6 : W5.heap[wo.heap.size]? = some (.cells #[.int .i64 S, .slice na out.length nc] 24 (0, 0)) := by
                rw [hW5]
                have h1 := Hb5.out
                (repeat (first | rw [if_pos (by omega)] | rw [if_neg (by omega)] | rw [hp_drew] | rw [hp_drewN] | rw [hp_alloc_size] | rw [hp_setCell_size] | rw [hp_alloc] | rw [hp_setCell] | rw [Option.map_some] | rw [upd_cells] | rw [List.set_cons_zero] | rw [List.set_cons_succ] | rfl))
                exact h1
              have hn6 : W5.ownsRow (wo.heap.size + 1) 59 4 (.slice na out.length nc) out.length (flat out) := by
                refine owns_of_block Hn5.out fun y hy => ?_
                have h1 := owns_lt Hn5.out hy
                have h2 := owns_ge Hn5.out hy
                rw [hW5]
                (repeat (first | rw [if_pos (by omega)] | rw [if_neg (by omega)] | rw [hp_drew] | rw [hp_drewN] | rw [hp_alloc_size] | rw [hp_setCell_size] | rw [hp_alloc] | rw [hp_setCell] | rw [Option.map_some] | rw [upd_cells] | rw [List.set_cons_zero] | rw [List.set_cons_succ] | rfl))
              have hx6 : W5.heap[wr.heap.size]? = some (.cells #[.int .i64 x.a, .int .i64 x.b, .int .i64 x.c, .int .i64 x.d] 59 (0, 0)) := by
                rw [hW5]
                rw [hp_alloc, if_pos (by rw [hp_setCell_size])]
              have hsz6 : wr.heap.size < W5.heap.size := lt_of_block hx6
              have htl : t'.length = N := by rw [ht', seti_length]; have := Hnl.out; have := HNi.out; omega
              have hrn : ren t' x = ren t x := by rw [ht']; exact Hren.out _
              have hsw := Hsw.out
              rw [if_pos trivial, ← ht'] at hsw
              obtain ⟨⟨ka0, ka1⟩, ⟨kb0, kb1⟩, ⟨kc0, kc1⟩, ⟨kd0, kd1⟩⟩ := Hkids.out
              have hcall : ∀ w6, Fr [] W5 w6 → Calls Try.prog 30 #[.agg #[.int .i64 x.a, .int .i64 x.b, .int .i64 x.c, .int .i64 x.d], .slice (some ⟨w2.heap.size, 0, none⟩) N N] w6 fun e w' => e = .returned (kv (ren t x)) ∧ Fr [] w6 w' := fun w6 hf => by
                rw [← hrn]
                exact renamed_calls (k := x) ((by have := Reads.of_owns ho6; rw [← htl] at this ⊢; exact this : Reads W5 (.slice (some ⟨w2.heap.size, 0, none⟩) N N) t'.length 1 (i64s t')).fr hf) ⟨ka0, by omega⟩ ⟨kb0, by omega⟩ ⟨kc0, by omega⟩ ⟨kd0, by omega⟩
              obtain ⟨y, hy⟩ : ∃ y, y = ren t x := ⟨_, rfl⟩
              rw [← hy] at hcall hsw
              have r0 := heap_eq_cell hx6 0
              have r1 := heap_eq_cell hx6 1
              have r2 := heap_eq_cell hx6 2
              have r3 := heap_eq_cell hx6 3
              have s1 := heap_eq_cell hb6 1
              have hob6 := lt_of_block hb6
              have Ho6 := Lib.hid ho6
              have Hf6 := Lib.hid hf6
              have Hb6 := Lib.hid hb6
              have Hn6 := Lib.hid hn6
              have Hsw6 := Lib.hid hsw
              have Hcall := Lib.hid hcall
              clear hW5 ht' ho6 hf6 hb6 hn6 hx6 htl hrn hsw hcall hy k0 k1 q0 q1 hmk hcz hz e0 e1 e2 e3 Hsw Hren Hkids ka0 ka1 kb0 kb1 kc0 kc1 kd0 kd1
              refine wp_region_segs [([0, 1, 2, 3, 4], [1]), ([5, 6, 7, 8], [])] (by kernel_rfl) (by kernel_rfl) ?_
              (simp only [wpSegs, pick, Array.getD_eq_getD_getElem?, List.getElem?_toArray, List.getElem?_cons_succ, List.getElem?_cons_zero, Option.getD_some])
              go_wp2_with fail
              refine (Hcall.out _ (by (repeat (first | exact Fr.refl _ _ | assumption | apply Fr.drewN | apply Fr.drew | apply Fr.alloc | refine Fr.setCell ?_ (Or.inr (by simp; try omega)) _)))).mono ?_
              unfold kv
              rintro e w6 ⟨rfl, hf6⟩
              have hf6' : Fr [] W5 w6 := Fr.trans0 (by (repeat (first | exact Fr.refl _ _ | assumption | apply Fr.drewN | apply Fr.drew | apply Fr.alloc | refine Fr.setCell ?_ (Or.inr (by simp; try omega)) _))) hf6
              have hb7' := (hf6'.block _ hob6 (by simp)).trans Hb6.out
              have ho7 := owns_of_block Ho6.out fun z hz => hf6'.block z (owns_lt Ho6.out hz) (by simp)
              have hn7 := owns_of_block Hn6.out fun z hz => hf6'.block z (owns_lt Hn6.out hz) (by simp)
              have s1' := heap_eq_cell hb7' 1
              have hsz7 := hf6'.size
              have Hf7 := Lib.hid (Hf6.out.trans0 hf6')
              have Hb7' := Lib.hid hb7'
              have Ho7 := Lib.hid ho7
              have Hn7 := Lib.hid hn7
              clear hf6 hf6' hb7' ho7 hn7 s1 r0 r1 r2 r3
              go_wp2
              refine Mid.intro ⟨⟨again_cell (T := 22) rfl rfl rfl Try.underlying22 rfl s1' rfl, trivial⟩, ?_⟩
              clear s1'
              go_wp2_with (at_builtin; refine append_quad (k := y) (n := out.length) (base := wo.heap.size + 1) (xs := flat out) rfl rfl rfl ?e1 rfl ?e2 ?e3 ?e4 ?_)
              case e1 => exact owns_of_block Hn7.out fun z hz => heap_alloc_else _ _ _ (owns_lt Hn7.out hz)
              case e2 => (first | (rw [hp_alloc, if_pos rfl]; done) | exact (Array.getElem?_eq_some_iff.1 ((hp_alloc _ _ _).trans (if_pos rfl))).2 | (simp only [hp_drew, hp_drewN]; rw [hp_alloc, if_pos rfl]; done))
              case e3 => omega
              case e4 => (first | omega | (rw [hp_alloc_size]; omega) | (simp only [hp_drew, hp_drewN, hp_alloc_size]; omega) | (simp; omega))
              intro g' cap w9 hown9 hW9 hF9 hloc9 hg9
              have hne : ∀ z, (Value.slice na out.length nc).ownBlock = some z → wo.heap.size + 1 ≤ z := fun z hz => owns_ge Hn7.out hz
              have old : ∀ z, z < wo.heap.size + 1 → w9.heap[z]? = w6.heap[z]? := fun z hz => (hW9 z (by first | omega | (simp; omega)) (fun e => by have := hne z e; omega)).trans (heap_alloc_else _ _ _ (by omega))
              have hb9 := (old wo.heap.size (by omega)).trans Hb7'.out
              have o0 := heap_eq_cell hb9 0
              have o1 := heap_eq_cell hb9 1
              have p1 := heap_eq_frozen hb9 1
              have hb9l := lt_of_block hb9
              have Hf9 := Lib.hid ((Hf7.out.alloc _).trans hF9 fun z hz => .inr (by have := hne z (by simpa using hz); omega))
              have Ho9 := Lib.hid (owns_of_block Ho7.out fun z hz => old z (by
                have : w2.heap.size = z := by simpa [Value.ownBlock] using hz
                omega))
              have Hb9 := Lib.hid hb9
              have Hown9 := Lib.hid hown9
              clear hown9 hW9 hF9 hloc9 hne old hb9
              go_wp2
              refine Mid.intro ⟨trivial, Strict.intro rfl ?_⟩
              go_wp2
              go_roundw
              case rel =>
                have hG : wo.heap.size + 1 ≤ g' := owns_ge Hown9.out rfl
                refine ⟨k + 1, .slice (some ⟨g', 0, none⟩) (out.length + 1) cap, by go_num, by omega, ?_⟩
                rw [Hsw6.out]
                simp only [List.length_append, List.length_cons, List.length_nil, flat_snoc]
                refine ⟨owns_of_block Ho9.out fun z hz => ?_, ?_, owns_of_block Hown9.out fun z hz => ?_, Hf9.out.setCell (.inr (by simp; omega)) _⟩
                · have : w2.heap.size = z := by simpa [Value.ownBlock] using hz
                  rw [hp_setCell, if_neg (by omega)]
                · rw [hp_setCell, if_pos rfl, Hb9.out]; rfl
                · have : g' = z := by simpa [Value.ownBlock] using hz
                  rw [hp_setCell, if_neg (by omega)]
              case measure => simp [intOf]; omega
          · obtain rfl : k = ns.length := by omega
            have hnm := sw_named Hg.out Hmk.out.down ns.length (Nat.le_refl _)
            have hgo := hnm.1.good
            generalize hst : sw S ns m ns.length = st at *
            obtain ⟨t, out⟩ := st
            simp only at *
            have Hst := Lib.hid hst
            have Hgo := Lib.hid hgo
            have Ho5 := Lib.hid ho
            have Hf5 := Lib.hid hf
            have hrn := Reads.of_owns hn
            have hL : ∀ w6, Fr [] wr w6 → Calls Try.prog 25 #[.agg #[.int .i64 S, .slice na out.length nc]] w6 (LoadPost w6 S out) := fun w6 hf => Load_calls (by omega) (hrn.fr hf)
            have HL := Lib.hid hL
            have Hnl := Lib.hid hnl
            clear ho hb hn hf hb5 hst hnm hgo hrn hL hnl k0 k1
            go_wp2_with fail
            refine (HL.out _ (by (repeat (first | exact Fr.refl _ _ | assumption | apply Fr.drewN | apply Fr.drew | apply Fr.alloc | refine Fr.setCell ?_ (Or.inr (by simp; try omega)) _)))).mono ?_
            rintro e w6 ⟨h1, _⟩
            obtain ⟨b', F', rfl, hS6, hf6, hF6⟩ := h1 Hgo.out
            have hFs : ∀ x ∈ F', x < w6.heap.size := fun x hx => hS6.lt x hx
            have HS6 := Lib.hid hS6
            have hsz6 := hf6.size
            have Hf6 := Lib.hid (Hf5.out.trans0 hf6)
            have HF6 := Lib.hid hF6
            have HFs := Lib.hid hFs
            have Ho6 := Lib.hid (owns_of_block Ho5.out fun y hy => hf6.block y (owns_lt Ho5.out hy) (by simp))
            have Hrr6 := Lib.hid (Hrr.out.fr Hf6.out)
            clear h1 hS6 hf6 hF6 hFs q0 q1
            have hlr := HLR.out
            obtain ⟨_, ra, rc, rfl, har⟩ := Hrr6.out
            have Har := Lib.hid har
            clear har
            go_wp2_with fail
            go_loopw [5, 91] (fun o x wl => ∃ (k : Nat), x = .int .i64 k ∧ k ≤ roots.length ∧ wl.ownsRow w6.heap.size 3 1 o k (i64s ((roots.map (geti t)).take k)) ∧ Fr [] w6 wl) (fun _ x _ => roots.length - (intOf x).toNat)
            case atStart => exact ⟨0, rfl, by omega, World.ownsRow_nil _ _ _ _, Fr.refl _ _⟩
            case round =>
              obtain ⟨k, rfl, hk, ho, hf⟩ := hrel
              obtain ⟨oa, oc, rfl, _, _⟩ := owns_form ho
              have Hoo := Lib.hid ho
              have Hff := Lib.hid hf
              have hsz := hf.size
              by_cases hlt : k < roots.length
              · obtain ⟨g1, off1, rfl, hg1, hc1⟩ := Har.out (by omega)
                obtain ⟨r, hr⟩ : ∃ r, roots[k]? = some r := ⟨_, List.getElem?_eq_getElem hlt⟩
                have hkn := (Hmk.out.root r (List.mem_of_getElem? hr)).1
                obtain ⟨R, rfl⟩ : ∃ R : Nat, r = R := ⟨r.toNat, by have := hkn.1; omega⟩
                have hRN : R < N := by have := hkn.2; have := HNi.out; omega
                have e1 := (hf.cell (p := ⟨g1, off1 + k, none⟩) hg1 (by simp)).trans (hc1 k (.int .i64 R) (by rw [i64s, List.getElem?_map, hr]; rfl))
                have ht1 := owns_cell Ho6.out rfl (i64s_get (t := t) (n := R) (by have := Hnl.out; have := HNi.out; omega))
                have hwl := owns_lt Ho6.out rfl
                have ht2 := (hf.cell (p := ⟨w2.heap.size, R, none⟩) hwl (by simp)).trans ht1
                have hwr : w2.heap.size < wr.heap.size := by omega
                have hg1r : g1 < wr.heap.size := by omega
                have hsn : i64s ((roots.map (geti t)).take k) ++ [.int .i64 (geti t R)] = i64s ((roots.map (geti t)).take (k + 1)) := by
                  rw [List.take_add_one, List.getElem?_map, hr, ← i64s_snoc]; rfl
                have Hsn := Lib.hid hsn
                clear hc1 hr hkn hsn ho hf ht1 hwl
                generalize geti t R = y at *
                go_wp2_with (at_builtin; refine append_i64 (n := k) (base := w6.heap.size) (xs := i64s ((roots.map (geti t)).take k)) (y := y) rfl rfl rfl ?e1 rfl ?e2 ?e3 ?e4 ?_)
                case e1 => exact owns_of_block Hoo.out fun y hy => heap_alloc_else _ _ _ (owns_lt Hoo.out hy)
                case e2 => (first | (rw [hp_alloc, if_pos rfl]; done) | exact (Array.getElem?_eq_some_iff.1 ((hp_alloc _ _ _).trans (if_pos rfl))).2 | (simp only [hp_drew, hp_drewN]; rw [hp_alloc, if_pos rfl]; done))
                case e3 => omega
                case e4 => (first | omega | (rw [hp_alloc_size]; omega) | (simp only [hp_drew, hp_drewN, hp_alloc_size]; omega) | (simp; omega))
                intro g cap w9 hown1 hW1 hF1 hloc1 hg9
                rw [Hsn.out] at hown1
                have Hown1 := Lib.hid hown1
                have Hf1 := Lib.hid (fr_append Hff.out Hoo.out hF1)
                clear hown1 hW1 hF1 hloc1
                go_wp2
                go_roundw
                case rel => exact ⟨k + 1, by go_num, by omega, Hown1.out, Hf1.out⟩
                case measure => simp [intOf]; omega
              · obtain rfl : k = roots.length := by omega
                go_wp2
                (try simp only [Exit.inBlock, Exit.then])
                refine bodyPost_ret (v := .tuple #[.pointer (some ⟨b', 0, none⟩), .slice oa roots.length oc, .int .i64 0]) (by simp [results, Try.results16, go_sem]) rfl ⟨fun h => (by rw [Hm.out] at h; cases h), fun m' h => ?_⟩
                rw [Hm.out] at h
                cases h
                rw [Hst.out]
                have ho := Hoo.out
                rw [List.take_of_length_le (by simp)] at ho
                have hw := ((Hfw.out.trans0 Hf6.out)).size
                refine ⟨b', F', _, rfl, HS6.out.fr Hff.out (by simp), owns_base ho hw, (Hfw.out.trans0 Hf6.out).trans0 Hff.out, fun x hx => ?_, fun x hx he => ?_⟩
                · have := HF6.out x hx; have := Hfw.out.size; have := Hf5.out.size; omega
                · have := HFs.out x hx; have := owns_ge ho he; omega
end Go.Proofs.Ytgeomalefpjfdaa
