/- The reference of layer 25: Right. -/
import Derived.Test.YtgeomalefpjfdaaQl
namespace Go.Proofs.Ytgeomalefpjfdaa
open Go Go.RowKit Go.Proofs.Rg Go.Proofs.Mp Go.Proofs.Hp Go.Proofs.Qs
theorem findR_cases (ns : List K4) (k : K4) : (k ∈ ns ∧ 0 ≤ findR ns k ∧ findR ns k < ns.length) ∨ (k ∉ ns ∧ findR ns k = -1) := by
  unfold findR
  cases h : ns.idxOf? k with
  | some i =>
    left
    rw [List.idxOf?_eq_some_iff] at h
    obtain ⟨h1, h2, _⟩ := h
    have h3 : ns[i] = k := by simpa using h2
    refine ⟨by rw [← h3]; exact List.getElem_mem _, ?_, ?_⟩ <;> simp <;> omega
  | none => right; exact ⟨by simpa using h, rfl⟩
set_option maxHeartbeats 2000000 in
set_option maxRecDepth 100000 in
theorem RRight_calls {w : World} {s : Int} {ns : List K4} {v : Value} (hl : ns.length ≤ 90000) (hv : Reads w v ns.length 4 (flat ns)) :
    Calls Try.prog 24 #[.agg #[.int .i64 s, v]] w fun e w' => e = .returned (.bool (decide (GoodQ s ns))) ∧ Fr [] w w' := by
  have hvk := hv
  obtain ⟨_, a, c, rfl, hav⟩ := hv
  have Hav := Lib.hid hav
  have Hvk := Lib.hid hvk
  have Hl := Lib.hid hl
  clear hav hvk hl
  obtain ⟨i0, hi0, hi1, hi2, hi3⟩ := info_parts info_quad
  by_cases hs1 : s < 2
  · have hng : ¬ GoodQ s ns := fun h => by have := h.1; omega
    have Hng := Lib.hid hng
    clear hng
    go_enter Try.func24, Try.ntmps24
    go_wp2
    go_ret
    exact ⟨by rw [decide_eq_false Hng.out]; rfl, by (repeat (first | exact Fr.refl _ _ | assumption | apply Fr.drewN | apply Fr.drew | apply Fr.alloc | refine Fr.setCell ?_ (Or.inr (by simp; try omega)) _))⟩
  by_cases hs2 : 8 < s
  · have hng : ¬ GoodQ s ns := fun h => by have := h.2.1; omega
    have Hng := Lib.hid hng
    clear hng
    go_enter Try.func24, Try.ntmps24
    go_wp2
    go_ret
    exact ⟨by rw [decide_eq_false Hng.out]; rfl, by (repeat (first | exact Fr.refl _ _ | assumption | apply Fr.drewN | apply Fr.drew | apply Fr.alloc | refine Fr.setCell ?_ (Or.inr (by simp; try omega)) _))⟩
  have hd : decide ((100000 : Int) < ↑ns.length) = false := by have := Hl.out; simp; omega
  go_enter Try.func24, Try.ntmps24
  go_wp2
  clear hd
  go_loopw [4] (fun x wr => ∃ (k : Nat) (nv : Value), x = .int .i64 k ∧ k ≤ ns.length ∧ Fr [] w wr ∧ w.heap.size + 2 ≤ wr.heap.size ∧ wr.heap[w.heap.size]? = some (.cells #[.int .i64 s, .slice a ns.length c] 24 (0, 0)) ∧
      wr.heap[w.heap.size + 1]? = some (.cells #[.int .i64 s, nv] 24 (0, 0)) ∧
      wr.ownsRow (w.heap.size + 2) 59 4 nv k (flat (ns.take k)) ∧ GoodQ s (ns.take k)) (fun x _ => ns.length - (intOf x).toNat)
  case atStart =>
    refine ⟨0, .slice none 0 0, rfl, by omega, ?_, ?_, ?_, ?_, World.ownsRow_nil _ _ _ _, GoodQ.nil (by omega) (by omega)⟩
    · (repeat (first | exact Fr.refl _ _ | assumption | apply Fr.drewN | apply Fr.drew | apply Fr.alloc | refine Fr.setCell ?_ (Or.inr (by simp; try omega)) _))
    · simp only [hp_alloc_size, hp_setCell_size]; omega
    · (repeat (first | rw [if_pos (by omega)] | rw [if_neg (by omega)] | rw [hp_drew] | rw [hp_drewN] | rw [hp_alloc_size] | rw [hp_setCell_size] | rw [hp_alloc] | rw [hp_setCell] | rw [Option.map_some] | rw [upd_cells] | rw [List.set_cons_zero] | rw [List.set_cons_succ] | rfl))
    · (repeat (first | rw [if_pos (by omega)] | rw [if_neg (by omega)] | rw [hp_drew] | rw [hp_drewN] | rw [hp_alloc_size] | rw [hp_setCell_size] | rw [hp_alloc] | rw [hp_setCell] | rw [Option.map_some] | rw [upd_cells] | rw [List.set_cons_zero] | rw [List.set_cons_succ] | rfl))
  case round =>
    obtain ⟨k, nv, rfl, hk, hf, hsz, hb0, hb1, hown, hgood⟩ := hrel
    have b0 := heap_eq_cell hb0 0
    have b1 := heap_eq_cell hb0 1
    have o0 := heap_eq_cell hb1 0
    have o1 := heap_eq_cell hb1 1
    have hz1 : w.heap.size + 1 < wr.heap.size := by omega
    have Hsz := Lib.hid hsz
    have hnb : ∀ x, nv.ownBlock = some x → w.heap.size + 2 ≤ x := fun x hx => owns_ge hown hx
    have Hnb := Lib.hid hnb
    have Hf := Lib.hid hf
    have H0 := Lib.hid hb0
    have H1 := Lib.hid hb1
    have Hown := Lib.hid hown
    have Hgood := Lib.hid hgood
    obtain ⟨na, nc, rfl, _, _⟩ := owns_form hown
    clear hf hb0 hb1 hown hsz hnb hgood
    by_cases hlt : k < ns.length
    · obtain ⟨g, off, rfl, hg, hc⟩ := Hav.out (by omega)
      obtain ⟨f0, f1, f2, f3⟩ := flat_get (List.getElem?_eq_getElem hlt)
      rw [Nat.mul_comm] at f0 f1 f2 f3
      obtain ⟨x, hx⟩ : ∃ x, x = ns[k] := ⟨_, rfl⟩
      rw [← hx] at f0 f1 f2 f3
      have hgw : ∀ j, wr.cell? ⟨g, off + j, none⟩ = w.cell? ⟨g, off + j, none⟩ := fun j => Hf.out.cell (p := ⟨g, off + j, none⟩) hg (by simp)
      have e0 := (hgw _).trans (hc _ _ f0)
      have e1 := (hgw _).trans (hc _ _ f1)
      have e2 := (hgw _).trans (hc _ _ f2)
      have e3 := (hgw _).trans (hc _ _ f3)
      simp only [← Nat.add_assoc] at e1 e2 e3
      have hgr : g < wr.heap.size := by have := Hf.out.size; omega
      have E0 := hc _ _ f0
      have E1 := hc _ _ f1
      have E2 := hc _ _ f2
      have E3 := hc _ _ f3
      simp only [← Nat.add_assoc] at E1 E2 E3
      have HE := Lib.hid (And.intro E0 (And.intro E1 (And.intro E2 E3)))
      clear E0 E1 E2 E3
      have Hx := Lib.hid hx
      clear hx hc f0 f1 f2 f3 hgw
      have hlk : (ns.take k).length = k := by rw [List.length_take]; omega
      have Hlk := Lib.hid hlk
      clear hlk
      have hR : ∀ w1, Fr [] wr w1 → Reads w1 (.slice na k nc) (ns.take k).length 4 (flat (ns.take k)) := fun w1 hf1 => by rw [Hlk.out]; exact (Reads.of_owns Hown.out).fr hf1
      have HR := Lib.hid hR
      clear hR
      obtain ⟨la, hla⟩ : ∃ la, la = lvl s (levs s (ns.take k)) x.a := ⟨_, rfl⟩
      obtain ⟨lb, hlb⟩ : ∃ lb, lb = lvl s (levs s (ns.take k)) x.b := ⟨_, rfl⟩
      obtain ⟨lc, hlc⟩ : ∃ lc, lc = lvl s (levs s (ns.take k)) x.c := ⟨_, rfl⟩
      obtain ⟨ld, hld⟩ : ∃ ld, ld = lvl s (levs s (ns.take k)) x.d := ⟨_, rfl⟩
      obtain ⟨fi, hfi⟩ : ∃ fi, fi = findR (ns.take k) x := ⟨_, rfl⟩
      have Hla := Lib.hid hla
      have Hlb := Lib.hid hlb
      have Hlc := Lib.hid hlc
      have Hld := Lib.hid hld
      have Hfi := Lib.hid hfi
      clear hla hlb hlc hld hfi
      have hsp : GoodQ s ns → 0 ≤ la ∧ la < 256 ∧ lb = la ∧ lc = la ∧ ld = la ∧ fi < 0 := fun h => by
        obtain ⟨⟨h0, h1, h2, h3, h4⟩, hn⟩ := goodQ_step h hlt
        have hx := Hx.out
        subst hx
        rw [Hla.out, Hlb.out, Hlc.out, Hld.out, Hfi.out]
        refine ⟨h0, h1, h2, h3, h4, ?_⟩
        rcases findR_cases (ns.take k) ns[k] with h5 | h5
        · exact absurd h5.1 hn
        · rw [h5.2]; omega
      have Hsp := Lib.hid hsp
      clear hsp
      go_wp2_with fail
      have hk3 : (wr.alloc (.cells #[.int .i64 x.a, .int .i64 x.b, .int .i64 x.c, .int .i64 x.d] 57)).heap[wr.heap.size]? = some (.cells #[.int .i64 x.a, .int .i64 x.b, .int .i64 x.c, .int .i64 x.d] 57 (0, 0)) := by (repeat (first | rw [if_pos (by omega)] | rw [if_neg (by omega)] | rw [hp_drew] | rw [hp_drewN] | rw [hp_alloc_size] | rw [hp_setCell_size] | rw [hp_alloc] | rw [hp_setCell] | rw [Option.map_some] | rw [upd_cells] | rw [List.set_cons_zero] | rw [List.set_cons_succ] | rfl))
      have hf3 : Fr [] wr (wr.alloc (.cells #[.int .i64 x.a, .int .i64 x.b, .int .i64 x.c, .int .i64 x.d] 57)) := by (repeat (first | exact Fr.refl _ _ | assumption | apply Fr.drewN | apply Fr.drew | apply Fr.alloc | refine Fr.setCell ?_ (Or.inr (by simp; try omega)) _))
      generalize wr.alloc (.cells #[.int .i64 x.a, .int .i64 x.b, .int .i64 x.c, .int .i64 x.d] 57) = w3 at *
      have hcells : ∀ w', Fr [] w3 w' → w'.cell? ⟨w.heap.size + 1, 0, none⟩ = some (.int .i64 s) ∧ w'.cell? ⟨w.heap.size + 1, 1, none⟩ = some (.slice na k nc) ∧ w'.cell? ⟨wr.heap.size, 0, none⟩ = some (.int .i64 x.a) ∧ w'.cell? ⟨wr.heap.size, 1, none⟩ = some (.int .i64 x.b) ∧
          w'.cell? ⟨wr.heap.size, 2, none⟩ = some (.int .i64 x.c) ∧ w'.cell? ⟨wr.heap.size, 3, none⟩ = some (.int .i64 x.d) := fun w' hf' => by
        have hp := ((hf3.trans0 hf').block _ (lt_of_block H1.out) (by simp)).trans H1.out
        have hq := (hf'.block _ (lt_of_block hk3) (by simp)).trans hk3
        exact ⟨heap_eq_cell hp 0, heap_eq_cell hp 1, heap_eq_cell hq 0, heap_eq_cell hq 1, heap_eq_cell hq 2, heap_eq_cell hq 3⟩
      have hLev : ∀ (w1 : World) (id l : Int), l = lvl s (levs s (ns.take k)) id → Fr [] w3 w1 → Calls Try.prog 35 #[.agg #[.int .i64 s, .slice na k nc], .int .i64 id] w1 fun e w' => e = .returned (.int .i64 l) ∧ Fr [] w3 w' ∧ w'.cell? ⟨w.heap.size + 1, 0, none⟩ = some (.int .i64 s) ∧ w'.cell? ⟨w.heap.size + 1, 1, none⟩ = some (.slice na k nc) ∧ w'.cell? ⟨wr.heap.size, 0, none⟩ = some (.int .i64 x.a) ∧ w'.cell? ⟨wr.heap.size, 1, none⟩ = some (.int .i64 x.b) ∧
          w'.cell? ⟨wr.heap.size, 2, none⟩ = some (.int .i64 x.c) ∧ w'.cell? ⟨wr.heap.size, 3, none⟩ = some (.int .i64 x.d) := fun w1 id l hl1 hf1 => by
        refine (level_ref Hgood.out (HR.out w1 (hf3.trans0 hf1)) id).mono ?_
        rintro e w' ⟨rfl, o, rfl⟩
        exact ⟨by rw [hl1], hf1.alloc o, hcells _ (hf1.alloc o)⟩
      have hFind : ∀ (w1 : World), Fr [] w3 w1 → Calls Try.prog 36 #[.agg #[.int .i64 s, .slice na k nc], .agg #[.int .i64 x.a, .int .i64 x.b, .int .i64 x.c, .int .i64 x.d]] w1 fun e w' => e = .returned (.int .i64 fi) ∧ Fr [] w3 w' := fun w1 hf1 => by
        refine (find_ref (s := s) (by rw [Hlk.out]; have := Hl.out; omega) (HR.out w1 (hf3.trans0 hf1)) x).mono ?_
        rintro e w' ⟨rfl, o1, o2, n, rfl⟩
        exact ⟨by rw [Hfi.out], ((hf1.alloc o1).alloc o2).drewN n⟩
      have hcs := hcells w3 (Fr.refl _ _)
      have HLev := Lib.hid hLev
      have HFind := Lib.hid hFind
      have Hf3 := Lib.hid hf3
      have Hk3 := Lib.hid hk3
      clear hLev hFind hcells hf3 hk3 b0 b1 o0 o1 e0 e1 e2 e3
      obtain ⟨c0, c1, k0, k1, k2, k3⟩ := hcs
      clear c0 c1 k0 k1 k2 k3
      refine (HLev.out _ _ _ Hla.out (Fr.refl _ _)).mono ?_
      rintro e w4 ⟨rfl, hf, c0, c1, k0, k1, k2, k3⟩
      have Hf_w4 := Lib.hid hf
      clear hf
      go_wp2_with fail
      any_goals (go_ret; refine ⟨?_, (Hf.out.trans0 Hf3.out).trans0 Hf_w4.out⟩; rw [decide_eq_false (p := GoodQ s ns) fun h => by have := Hsp.out h; omega]; rfl)
      clear c0 c1 k0 k1 k2 k3
      refine (HLev.out _ _ _ Hlb.out Hf_w4.out).mono ?_
      rintro e w5 ⟨rfl, hf, c0, c1, k0, k1, k2, k3⟩
      have Hf_w5 := Lib.hid hf
      clear hf
      go_wp2_with fail
      any_goals (go_ret; refine ⟨?_, (Hf.out.trans0 Hf3.out).trans0 Hf_w5.out⟩; rw [decide_eq_false (p := GoodQ s ns) fun h => by have := Hsp.out h; omega]; rfl)
      clear c0 c1 k0 k1 k2 k3
      refine (HLev.out _ _ _ Hlc.out Hf_w5.out).mono ?_
      rintro e w6 ⟨rfl, hf, c0, c1, k0, k1, k2, k3⟩
      have Hf_w6 := Lib.hid hf
      clear hf
      go_wp2_with fail
      any_goals (go_ret; refine ⟨?_, (Hf.out.trans0 Hf3.out).trans0 Hf_w6.out⟩; rw [decide_eq_false (p := GoodQ s ns) fun h => by have := Hsp.out h; omega]; rfl)
      clear c0 c1 k0 k1 k2 k3
      refine (HLev.out _ _ _ Hld.out Hf_w6.out).mono ?_
      rintro e w7 ⟨rfl, hf, c0, c1, k0, k1, k2, k3⟩
      have Hf_w7 := Lib.hid hf
      clear hf
      go_wp2_with fail
      any_goals (go_ret; refine ⟨?_, (Hf.out.trans0 Hf3.out).trans0 Hf_w7.out⟩; rw [decide_eq_false (p := GoodQ s ns) fun h => by have := Hsp.out h; omega]; rfl)
      clear c0 c1 k0 k1 k2 k3
      refine (HFind.out _ Hf_w7.out).mono ?_
      rintro e w8 ⟨rfl, hf⟩
      have Hf8 := Lib.hid hf
      clear hf
      have hf8 : Fr [] wr w8 := Hf3.out.trans0 Hf8.out
      have hp := (hf8.block _ (lt_of_block H1.out) (by simp)).trans H1.out
      have hq := (hf8.block _ (lt_of_block H0.out) (by simp)).trans H0.out
      have o0 := heap_eq_cell hp 0
      have o1 := heap_eq_cell hp 1
      have p1 := heap_eq_frozen hp 1
      have b1 := heap_eq_cell hq 1
      obtain ⟨E0, E1, E2, E3⟩ := HE.out
      have hgw : ∀ j, w8.cell? ⟨g, j, none⟩ = w.cell? ⟨g, j, none⟩ := fun j => (Hf.out.trans0 hf8).cell (p := ⟨g, j, none⟩) hg (by simp)
      have e0 := (hgw _).trans E0
      have e1 := (hgw _).trans E1
      have e2 := (hgw _).trans E2
      have e3 := (hgw _).trans E3
      have hown8 := owns_of_block Hown.out fun y hy => hf8.block y (owns_lt Hown.out hy) (by simp)
      have hsz8 := hf8.size
      have hz1 : w.heap.size + 1 < w8.heap.size := by have := Hsz.out; omega
      have hg8 : g < w8.heap.size := by omega
      have Hown8 := Lib.hid hown8
      have HP8 := Lib.hid hp
      have HQ8 := Lib.hid hq
      have Hf8w := Lib.hid (Hf.out.trans0 hf8)
      have Hsz8 := Lib.hid hsz8
      clear hf8 hp hq E0 E1 E2 E3 hgw hown8 hsz8 HLev HFind
      go_wp2_with fail
      any_goals (go_ret; refine ⟨?_, Hf8w.out⟩; rw [decide_eq_false (p := GoodQ s ns) fun h => by have := Hsp.out h; omega]; rfl)
      have hadd : Fits s (ns.take k) x ∧ x ∉ ns.take k := by
        have ha := Hla.out
        have hb := Hlb.out
        have hc := Hlc.out
        have hd := Hld.out
        refine ⟨⟨by omega, by omega, by omega, by omega, by omega⟩, fun hm => ?_⟩
        rcases findR_cases (ns.take k) x with h | h
        · have := Hfi.out; omega
        · exact h.1 hm
      have hg1 : GoodQ s (ns.take (k + 1)) := by
        rw [take_snoc hlt, ← Hx.out]
        exact Hgood.out.snoc hadd.1 hadd.2 (by rw [Hlk.out]; have := Hl.out; omega)
      have Hg1 := Lib.hid hg1
      have hk9 : k < 90000 := by have := Hl.out; omega
      clear hadd hg1 Hsp
      (refine wp_region_text (by kernel_rfl) (by kernel_rfl) ?_)
      go_wp2_with (at_builtin; refine append_quad (k := x) (n := k) (base := w.heap.size + 2) (xs := flat (ns.take k)) rfl rfl rfl ?e1 rfl ?e2 ?e3 ?e4 ?_)
      case e1 => exact owns_of_block Hown8.out fun y hy => by rw [hp_drew]; exact heap_alloc_else _ _ _ (owns_lt Hown8.out hy)
      case e2 => (repeat (first | rw [if_pos (by omega)] | rw [if_neg (by omega)] | rw [hp_drew] | rw [hp_drewN] | rw [hp_alloc_size] | rw [hp_setCell_size] | rw [hp_alloc] | rw [hp_setCell] | rw [Option.map_some] | rw [upd_cells] | rw [List.set_cons_zero] | rw [List.set_cons_succ] | rfl))
      case e3 => have := Hl.out; omega
      case e4 => rw [hp_drew, hp_alloc_size]; omega
      intro g' cap w9 hown1 hW1 hF1 hloc1 hg1
      have old : ∀ y, y < w.heap.size + 2 → w9.heap[y]? = w8.heap[y]? := fun y hy => (hW1 y (by omega) (fun e => by have := Hnb.out y e; omega)).trans (by rw [hp_drew]; exact heap_alloc_else _ _ _ (by omega))
      have hb2 := (old (w.heap.size + 1) (by omega)).trans HP8.out
      have o0 := heap_eq_cell hb2 0
      have o1 := heap_eq_cell hb2 1
      have p1 := heap_eq_frozen hb2 1
      have Hown1 := Lib.hid hown1
      have Hold := Lib.hid old
      have HF1 := Lib.hid hF1
      have HB2 := Lib.hid hb2
      clear hown1 hW1 hF1 hloc1 old hb2
      have hs1 : w.heap.size + 1 < w9.heap.size := lt_of_block HB2.out
      go_wp2
      refine Strict.intro rfl ?_
      go_wp2
      go_roundw
      case rel =>
        have hG : w.heap.size + 2 ≤ g' := owns_ge Hown1.out rfl
        refine ⟨k + 1, .slice (some ⟨g', 0, none⟩) (k + 1) cap, by go_num, by omega, ?_, ?_, ?_, ?_, ?_, Hg1.out⟩
        · refine (((Hf8w.out.alloc _).drew).trans HF1.out fun y hy => ?_).setCell (Or.inr (by simp)) _
          have := Hnb.out y (by simpa using hy)
          right; omega
        · rw [hp_setCell_size]; omega
        · rw [hp_setCell, if_neg (by omega), Hold.out _ (by omega)]; exact HQ8.out
        · rw [hp_setCell, if_pos rfl, HB2.out]; rfl
        · have ht : flat (ns.take (k + 1)) = flat (ns.take k) ++ kcells x := by
            rw [List.take_add_one, List.getElem?_eq_getElem hlt, ← Hx.out]
            exact flat_snoc _ _
          rw [ht]
          refine owns_of_block Hown1.out fun y hy => ?_
          have : g' = y := by simpa [Value.ownBlock] using hy
          rw [hp_setCell, if_neg (by omega)]
      case measure => simp [intOf]; omega
    · obtain rfl : k = ns.length := by omega
      have hgood := Hgood.out
      rw [List.take_length] at hgood
      have Hgd := Lib.hid hgood
      clear hgood
      go_wp2
      go_ret
      exact ⟨by rw [decide_eq_true Hgd.out]; rfl, Hf.out⟩
end Go.Proofs.Ytgeomalefpjfdaa
