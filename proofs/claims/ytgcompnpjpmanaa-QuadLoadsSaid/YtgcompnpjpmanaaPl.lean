/- play: calls of both stores give the same results. -/
import Derived.Test.YtgcompnpjpmanaaTw
namespace Go.Proofs.Ytgcompnpjpmanaa
open Go Go.RowKit Go.Proofs.Rg Go.Proofs.Mp Go.Proofs.Hp Go.Proofs.Qs
def PlayPost (W : World) (b b' : Nat) (s : Int) (e : Ending) (w' : World) : Prop := e = .returned (.bool true) ∧ ∃ ms F F', Two W w' b b' s ms ms F F' ∧ ms.length ≤ 30000
set_option maxHeartbeats 8000000 in
set_option maxRecDepth 100000 in
theorem play_calls {W w : World} {b b' : Nat} {s : Int} {ns0 : List K4} {F F' : List Nat} {l : List (Int × K4)} {v : Value} (h2 : Two W w b b' s ns0 ns0 F F') (hn : ns0.length ≤ 100) (hl : l.length ≤ 80) (hv : Reads W v l.length 5 (l.map stepCells).flatten) :
    Calls Try.prog 17 #[.pointer (some ⟨b, 0, none⟩), .pointer (some ⟨b', 0, none⟩), v] w (PlayPost W b b' s) := by
  obtain ⟨_, a, c, rfl, hav⟩ := hv
  have Hav := Lib.hid hav
  have H2 := Lib.hid h2
  have Hn := Lib.hid hn
  have Hl := Lib.hid hl
  clear hav h2 hn hl
  go_enter Try.func17, Try.ntmps17
  go_wp2
  go_loopw [23] (fun x wr => ∃ (k : Nat) (ns : List K4) (G G' : List Nat), x = .int .i64 k ∧ k ≤ l.length ∧ Two W wr b b' s ns ns G G' ∧ ns.length ≤ 100 + 256 * k) (fun x _ => l.length - (intOf x).toNat)
  case atStart => exact ⟨0, ns0, F, F', rfl, by omega, H2.out, Hn.out⟩
  case round =>
    obtain ⟨k, ns, G, G', rfl, hk, ho, hn⟩ := hrel
    have Ho := Lib.hid ho
    have Hnn := Lib.hid hn
    clear ho hn
    by_cases hlt : k < l.length
    · have hkl : k < 80 := by have := Hl.out; omega
      have hnl : ns.length < 30000 := by have := Hnn.out; omega
      obtain ⟨g, off, rfl, hg, hc⟩ := Hav.out (by omega)
      obtain ⟨⟨kd, x⟩, hx⟩ : ∃ x, l[k]? = some x := ⟨_, List.getElem?_eq_getElem hlt⟩
      obtain ⟨f0, f1, f2, f3, f4⟩ := step_get hx
      rw [Nat.mul_comm] at f0 f1 f2 f3 f4
      have hgw : ∀ j, wr.cell? ⟨g, off + j, none⟩ = W.cell? ⟨g, off + j, none⟩ := fun j => Ho.out.fr.cell (p := ⟨g, off + j, none⟩) hg (by simp)
      have e0 := (hgw _).trans (hc _ _ f0)
      have e1 := (hgw _).trans (hc _ _ f1)
      have e2 := (hgw _).trans (hc _ _ f2)
      have e3 := (hgw _).trans (hc _ _ f3)
      have e4 := (hgw _).trans (hc _ _ f4)
      simp only [← Nat.add_assoc] at e0 e1 e2 e3 e4
      have hgr : g < wr.heap.size := by have := Ho.out.fr.size; omega
      clear hx hc f0 f1 f2 f3 f4 hgw
      have hin : In W (wr.alloc (.cells #[.int .i64 kd, .int .i64 x.a, .int .i64 x.b, .int .i64 x.c, .int .i64 x.d] 52)) b b' s ns ns wr.heap.size (.cells #[.int .i64 kd, .int .i64 x.a, .int .i64 x.b, .int .i64 x.c, .int .i64 x.d] 52 (0, 0)) :=
        (Ho.out.step ((Fr.refl [] wr).alloc _)).in_ (by (repeat (first | rw [if_pos (by omega)] | rw [if_neg (by omega)] | rw [hp_drew] | rw [hp_drewN] | rw [hp_alloc_size] | rw [hp_setCell_size] | rw [hp_alloc] | rw [hp_setCell] | rw [Option.map_some] | rw [upd_cells] | rw [List.set_cons_zero] | rw [List.set_cons_succ] | rfl))) (fun h => by have := Ho.out.st.lt _ h; omega) (fun h => by have := Ho.out.rf.lt _ h; omega)
      have HIn := Lib.hid hin
      clear hin
      go_wp2_with fail
      · clear e0 e1 e2 e3 e4
        rcases hJ : join s ns x with ⟨⟨r, q⟩, ns'⟩
        have hjl := join_len s ns x
        rw [hJ] at hjl
        have hc := HIn.out.stJoin x
        rw [hJ] at hc
        have HJ := Lib.hid hJ
        have Hjl := Lib.hid hjl
        clear hJ hjl
        refine hc.mono ?_
        clear hc
        rintro e w2 ⟨rfl, h⟩
        have c1 := heap_eq_cell h.blk 1
        have c2 := heap_eq_cell h.blk 2
        have c3 := heap_eq_cell h.blk 3
        have c4 := heap_eq_cell h.blk 4
        have hc := h.rfJoin (by omega) x
        rw [HJ.out] at hc
        have HC := Lib.hid hc
        clear hc h
        go_wp2_with fail
        refine HC.out.mono ?_
        rintro e w3 ⟨rfl, h⟩
        obtain ⟨G1, G2, h3⟩ := h.out
        have H3 := Lib.hid h3
        clear h h3 c1 c2 c3 c4
        go_wp2
        go_roundw
        case rel => exact ⟨k + 1, ns', G1, G2, by go_num, by omega, H3.out, by have := Hnn.out; have : ns'.length ≤ ns.length + 1 := Hjl.out; omega⟩
        case measure => simp [intOf]; omega
      · clear e0 e1 e2 e3 e4
        rcases hJ : kidsOf s ns x.a with ⟨kk, q⟩
        have hc := HIn.out.stKids x.a
        rw [hJ] at hc
        have HJ := Lib.hid hJ
        clear hJ
        refine hc.mono ?_
        clear hc
        rintro e w2 ⟨rfl, h, hf⟩
        have h' := h.step ((Fr.refl [] w2).alloc (.cells #[.int .i64 kk.a, .int .i64 kk.b, .int .i64 kk.c, .int .i64 kk.d] 42))
        have c1 := heap_eq_cell h.blk 1
        have hc := h'.rfKids x.a
        rw [HJ.out] at hc
        have hb2 := lt_of_block h.blk
        have HC := Lib.hid hc
        clear hc h h' hf
        unfold kv
        go_wp2_with fail
        refine HC.out.mono ?_
        rintro e w3 ⟨rfl, h, hf⟩
        obtain ⟨G1, G2, h3⟩ := h.out
        have hk1 : w3.heap[w2.heap.size]? = some (.cells #[.int .i64 kk.a, .int .i64 kk.b, .int .i64 kk.c, .int .i64 kk.d] 42 (0, 0)) := (hf.block _ (by rw [hp_alloc_size]; omega) (by simp)).trans (by (repeat (first | rw [if_pos (by omega)] | rw [if_neg (by omega)] | rw [hp_drew] | rw [hp_drewN] | rw [hp_alloc_size] | rw [hp_setCell_size] | rw [hp_alloc] | rw [hp_setCell] | rw [Option.map_some] | rw [upd_cells] | rw [List.set_cons_zero] | rw [List.set_cons_succ] | rfl)))
        have k0 := heap_eq_cell hk1 0
        have k1 := heap_eq_cell hk1 1
        have k2 := heap_eq_cell hk1 2
        have k3 := heap_eq_cell hk1 3
        have hk2 := lt_of_block hk1
        have H3 := Lib.hid h3
        clear h h3 hf hk1 c1
        unfold kv
        go_wp2
        go_roundw
        case rel => exact ⟨k + 1, ns, G1, G2, by go_num, by omega, H3.out.step (by (repeat (first | exact Fr.refl _ _ | assumption | apply Fr.drewN | apply Fr.drew | apply Fr.alloc | refine Fr.setCell ?_ (Or.inr (by simp; try omega)) _))), by have := Hnn.out; omega⟩
        case measure => simp [intOf]; omega
      · refine wp_region_segs [([0, 1, 2, 4, 5, 6, 3], [6]), ([7, 8], [])] (by kernel_rfl) (by kernel_rfl) ?_
        (simp only [wpSegs, pick, Array.getD_eq_getD_getElem?, List.getElem?_toArray, List.getElem?_cons_succ, List.getElem?_cons_zero, Option.getD_some])
        go_wp2_with fail
        clear e0 e1 e2 e3 e4
        refine ((HIn.out.step (Fr.refl [] _).drew).stLevel x.a).mono ?_
        rintro e w2 ⟨rfl, h, hf⟩
        have c1 := heap_eq_cell h.blk 1
        have H := Lib.hid h
        clear h hf
        go_wp2
        refine Mid.intro ⟨⟨again_cell (T := 3) rfl rfl rfl Try.underlying3 rfl c1 rfl, trivial⟩, ?_⟩
        go_wp2_with fail
        refine (H.out.rfLevel x.a).mono ?_
        rintro e w3 ⟨rfl, h, hf⟩
        obtain ⟨G1, G2, h3⟩ := h.out
        have H3 := Lib.hid h3
        clear h h3 hf c1
        go_wp2
        refine Mid.intro ⟨trivial, Strict.intro rfl ?_⟩
        go_wp2
        go_roundw
        case rel => exact ⟨k + 1, ns, G1, G2, by go_num, by omega, H3.out, by have := Hnn.out; omega⟩
        case measure => simp [intOf]; omega
      · clear e0 e1 e2 e3 e4
        rcases hJ : emptyQ s ns x.a with ⟨⟨r, q⟩, ns'⟩
        have hjl := join_len2 s ns x.a Ho.out.st.1 (by omega)
        rw [hJ] at hjl
        have hc := HIn.out.stEmpty x.a
        rw [hJ] at hc
        have HJ := Lib.hid hJ
        have Hjl := Lib.hid hjl
        clear hJ hjl
        refine hc.mono ?_
        clear hc
        rintro e w2 ⟨rfl, h⟩
        have c1 := heap_eq_cell h.blk 1
        have hc := h.rfEmpty (by omega) x.a
        rw [HJ.out] at hc
        have HC := Lib.hid hc
        clear hc h
        go_wp2_with fail
        refine HC.out.mono ?_
        rintro e w3 ⟨rfl, h⟩
        obtain ⟨G1, G2, h3⟩ := h.out
        have H3 := Lib.hid h3
        clear h h3 c1
        go_wp2
        go_roundw
        case rel => exact ⟨k + 1, ns', G1, G2, by go_num, by omega, H3.out, by have := Hnn.out; have : ns'.length ≤ ns.length + 256 := Hjl.out; omega⟩
        case measure => simp [intOf]; omega
      · go_roundw
        case rel => exact ⟨k + 1, ns, G, G', by go_num, by omega, Ho.out.step (by (repeat (first | exact Fr.refl _ _ | assumption | apply Fr.drewN | apply Fr.drew | apply Fr.alloc | refine Fr.setCell ?_ (Or.inr (by simp; try omega)) _))), by have := Hnn.out; omega⟩
        case measure => simp [intOf]; omega
    · obtain rfl : k = l.length := by omega
      have hnl : ns.length ≤ 30000 := by have := Hl.out; have := Hnn.out; omega
      go_wp2_with fail
      refine (Data_calls Ho.out.st).mono ?_
      rintro e w5 ⟨v5, rfl, ho5, hf5⟩
      obtain ⟨va, vc, rfl, _, _⟩ := owns_form ho5
      have H5 := Lib.hid (Ho.out.step hf5)
      have Hr5 := Lib.hid (Reads.of_owns ho5)
      clear ho5 hf5
      go_wp2_with fail
      refine (RData_calls H5.out.rf).mono ?_
      rintro e w6 ⟨v6, rfl, ho6, hf6⟩
      obtain ⟨vb, vd, rfl, _, _⟩ := owns_form ho6
      have H6 := Lib.hid (H5.out.step hf6)
      have Hr5' := Lib.hid (Hr5.out.fr hf6)
      have Hr6 := Lib.hid (Reads.of_owns ho6)
      clear ho6 hf6
      go_wp2_with fail
      refine (Same_ref (by omega) Hr5'.out Hr6.out).mono ?_
      rintro e w7 ⟨rfl, o1, o2, n, rfl⟩
      have hsq : sameQ s s ns ns = true := by simp [sameQ]
      rw [hsq]
      clear hsq
      go_wp2
      go_ret
      exact ⟨rfl, ns, G, G', H6.out.step (by (repeat (first | exact Fr.refl _ _ | assumption | apply Fr.drewN | apply Fr.drew | apply Fr.alloc | refine Fr.setCell ?_ (Or.inr (by simp; try omega)) _))), hnl⟩
end Go.Proofs.Ytgcompnpjpmanaa
