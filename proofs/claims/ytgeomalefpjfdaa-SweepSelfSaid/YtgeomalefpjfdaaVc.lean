/- The reference of Sweep. -/
import Derived.Test.YtgeomalefpjfdaaVb
namespace Go.Proofs.Ytgeomalefpjfdaa
open Go Go.RowKit Go.Proofs.Rg Go.Proofs.Mp Go.Proofs.Hp Go.Proofs.Qs
set_option linter.unusedVariables false
theorem results_cell3 {fn : Func} {p u v : Tmp} {ty : TypeId} (h : fn.results = #[.cell p ty, .tmp u, .tmp v]) (tmps : Array Value) (P : Program) (w : World) :
    (results fn tmps).run P w = ((asAddr (tmps.getD p undef)).run P w).andThen fun a w₁ => ((loadVar ty a).run P w₁).andThen fun x w₂ => .ok (.tuple #[x, tmps.getD u undef, tmps.getD v undef]) w₂ := by
  simp only [results, h]
  simp [Sem.run_bind, Result.andThen]
theorem RSweep_result {tmps : Array Value} {b : Nat} {w' : World} {x y u v : Value} (h4 : tmps.getD 4 undef = .pointer (some ⟨b, 0, none⟩)) (hb : w'.heap[b]? = some (.cells #[x, y] 24 (0, 0))) (h5 : tmps.getD 5 undef = u) (h6 : tmps.getD 6 undef = v) :
    (results Try.f17 tmps).run Try.prog w' = .ok (.tuple #[.agg #[x, y], u, v]) w' := by
  rw [results_cell3 rfl, h4]
  simp only [asAddr, Sem.run_pure, Result.andThen]
  rw [run_loadVar_row w' b _ _ _ _ _ hb Try.underlying24 rfl (by kernel_rfl)]
  simp only [h5, h6]
def RSweepPost (w : World) (s : Int) (ns : List K4) (roots : List Int) (e : Ending) (w' : World) : Prop :=
  (marks s ns roots = none → e = .returned (.tuple #[.agg #[.int .i64 0, .slice none 0 0], .slice none 0 0, .int .i64 13]) ∧ Fr [] w w') ∧
  ∀ m, marks s ns roots = some m → ∃ nv v, e = .returned (.tuple #[.agg #[.int .i64 s, nv], v, .int .i64 0]) ∧ w'.ownsRow w.heap.size 59 4 nv (sw s ns m ns.length).2.length (flat (sw s ns m ns.length).2) ∧
    w'.ownsRow w.heap.size 3 1 v roots.length (i64s (roots.map (geti (sw s ns m ns.length).1))) ∧ Fr [] w w'
set_option maxHeartbeats 16000000 in
set_option maxRecDepth 100000 in
theorem RSweep_calls {w : World} {s : Int} {ns : List K4} {v rv : Value} {roots : List Int} (hg : GoodQ s ns) (hv : Reads w v ns.length 4 (flat ns)) (hr : Reads w rv roots.length 1 (i64s roots)) (hlr : roots.length ≤ 1000000) :
    Calls Try.prog 17 #[.agg #[.int .i64 s, v], rv] w (RSweepPost w s ns roots) := by
  have hN : ∀ w1, Fr [] w w1 → Calls Try.prog 12 #[.agg #[.int .i64 s, v], rv] w1 (NeedPost w1 s ns roots) := fun w1 hf => RNeeded_calls hg (hv.fr hf) (hr.fr hf) hlr
  have HN := Lib.hid hN
  obtain ⟨_, a, c, rfl, hav⟩ := hv
  have hs1 := hg.1
  have hs2 := hg.2.1
  have hln := hg.2.2.1
  obtain ⟨S, rfl⟩ : ∃ S : Nat, s = S := ⟨s.toNat, by omega⟩
  have Hg := Lib.hid hg
  have Hav := Lib.hid hav
  have Hr := Lib.hid hr
  clear hg hav hr hN
  go_enter Try.func17, Try.ntmps17
  go_wp2_with fail
  refine (HN.out _ (by (repeat (first | exact Fr.refl _ _ | assumption | apply Fr.drewN | apply Fr.drew | apply Fr.alloc | refine Fr.setCell ?_ (Or.inr (by simp; try omega)) _)))).mono ?_
  rintro e w1 ⟨h1, h2⟩
  have H1 := Lib.hid h1
  have H2 := Lib.hid h2
  clear h1 h2
  cases hm : marks S ns roots with
  | none =>
    obtain ⟨rfl, h2⟩ := H1.out hm
    have hb0 := (h2.block (w.heap.size + 1) (by simp) (by simp)).trans (show _ = some (.cells #[.int .i64 0, .slice none 0 0] 24 (0, 0)) by (repeat (first | rw [if_pos (by omega)] | rw [if_neg (by omega)] | rw [hp_drew] | rw [hp_drewN] | rw [hp_alloc_size] | rw [hp_setCell_size] | rw [hp_alloc] | rw [hp_setCell] | rw [Option.map_some] | rw [upd_cells] | rw [List.set_cons_zero] | rw [List.set_cons_succ] | rfl)))
    have hl0 := lt_of_block hb0
    have f0 := heap_eq_frozen hb0 0
    have f1 := heap_eq_frozen hb0 1
    have o0 := heap_eq_cell hb0 0
    have o1 := heap_eq_cell hb0 1
    have Hb0 := Lib.hid hb0
    have Hf := Lib.hid (Fr.trans0 (by (repeat (first | exact Fr.refl _ _ | assumption | apply Fr.drewN | apply Fr.drew | apply Fr.alloc | refine Fr.setCell ?_ (Or.inr (by simp; try omega)) _)) : Fr [] w _) h2)
    have Hm := Lib.hid hm
    clear hb0 h2 hm
    go_wp2
    (try simp only [Exit.inBlock, Exit.then])
    refine bodyPost_ret (RSweep_result (b := w.heap.size + 1) (x := .int .i64 0) (y := .slice none 0 0) rfl ?_ rfl rfl) rfl ⟨fun _ => ⟨rfl, ?_⟩, fun m h => (by rw [Hm.out] at h; cases h)⟩
    · have h1 := Hb0.out
      (repeat (first | rw [if_pos (by omega)] | rw [if_neg (by omega)] | rw [hp_drew] | rw [hp_drewN] | rw [hp_alloc_size] | rw [hp_setCell_size] | rw [hp_alloc] | rw [hp_setCell] | rw [Option.map_some] | rw [upd_cells] | rw [List.set_cons_zero] | rw [List.set_cons_succ] | rfl))
      rw [h1]
      (repeat (first | rw [if_pos (by omega)] | rw [if_neg (by omega)] | rw [hp_drew] | rw [hp_drewN] | rw [hp_alloc_size] | rw [hp_setCell_size] | rw [hp_alloc] | rw [hp_setCell] | rw [Option.map_some] | rw [upd_cells] | rw [List.set_cons_zero] | rw [List.set_cons_succ] | rfl))
    · exact (Hf.out.setCell (.inr (by simp)) _).setCell (.inr (by simp)) _
  | some m =>
    obtain ⟨lv, rfl, ho2, h2⟩ := H2.out m hm
    have hmk := marks_marked Hg.out hm
    have hml := hmk.len
    have Hmk := Lib.hid hmk
    have Hm := Lib.hid hm
    obtain ⟨N, hN⟩ : ∃ N, N = m.length := ⟨_, rfl⟩
    have HNi := Lib.hid (show (S : Int) + ns.length = N by omega)
    have hNb : N ≤ 200000 := by omega
    have hNp : 0 < N := by omega
    have hSN : S ≤ N := by omega
    have hNt : ((S : Int) + ns.length).toNat = N := by omega
    rw [hNt] at ho2
    have hnll := nl_length m N
    have HNt := Lib.hid hNt
    have HNm := Lib.hid hN
    have hb0 := (h2.block w.heap.size (by simp; omega) (by simp)).trans (show _ = some (.cells #[.int .i64 S, .slice a ns.length c] 24 (0, 0)) by (repeat (first | rw [if_pos (by omega)] | rw [if_neg (by omega)] | rw [hp_drew] | rw [hp_drewN] | rw [hp_alloc_size] | rw [hp_setCell_size] | rw [hp_alloc] | rw [hp_setCell] | rw [Option.map_some] | rw [upd_cells] | rw [List.set_cons_zero] | rw [List.set_cons_succ] | rfl)))
    have hb1 := (h2.block (w.heap.size + 1) (by simp) (by simp)).trans (show _ = some (.cells #[.int .i64 0, .slice none 0 0] 24 (0, 0)) by (repeat (first | rw [if_pos (by omega)] | rw [if_neg (by omega)] | rw [hp_drew] | rw [hp_drewN] | rw [hp_alloc_size] | rw [hp_setCell_size] | rw [hp_alloc] | rw [hp_setCell] | rw [Option.map_some] | rw [upd_cells] | rw [List.set_cons_zero] | rw [List.set_cons_succ] | rfl)))
    have hl0 := lt_of_block hb0
    have hl1 := lt_of_block hb1
    have b0 := heap_eq_cell hb0 0
    have b1 := heap_eq_cell hb0 1
    have Hb0 := Lib.hid hb0
    have Hb1 := Lib.hid hb1
    have Hf := Lib.hid (Fr.trans0 (by (repeat (first | exact Fr.refl _ _ | assumption | apply Fr.drewN | apply Fr.drew | apply Fr.alloc | refine Fr.setCell ?_ (Or.inr (by simp; try omega)) _)) : Fr [] w _) h2)
    have Hl := Lib.hid (Reads.of_owns ho2)
    clear hm h2 hmk hml hN ho2 hb0 hb1 H1 H2 hNt
    go_wp2_with (refine wpList_make1 rfl (t := 25) (e := 3) (n := N) (z := .int .i64 0) (bytes := 8) rfl (congrArg (Value.int .i64) HNi.out) (congrArg (Value.int .i64) HNi.out) Try.underlying25 info_i64 rfl ?e1 ?e2 ?_)
    case e1 => omega
    case e2 => unfold maxLen; omega
    clear b0 b1
    intro w3 ho3 hf3 hsz3
    have hb3 := (hf3.block _ hl0 (by simp)).trans Hb0.out
    have b0 := heap_eq_cell hb3 0
    have hb3l := lt_of_block hb3
    have Ho3 := Lib.hid ho3
    have Hf3 := Lib.hid hf3
    clear ho3 hf3 hb3
    go_wp2_with fail
    clear b0 hb3l
    obtain ⟨l, hl⟩ : ∃ l, l = nl m N := ⟨_, rfl⟩
    have hmem : ∀ x ∈ l, 0 ≤ x ∧ x < N := fun x hx => by rw [hl] at hx; have := nl_mem hx; omega
    have Hmem := Lib.hid hmem
    rw [← hl] at Hl hnll
    obtain ⟨_, la, lc, rfl, hla⟩ := Hl.out
    have Hla := Lib.hid hla
    have Hle := Lib.hid hl
    clear hl hmem hla
    have hR0 : rs S ns (l.take 0) = (List.replicate N 0, []) := by rw [List.take_zero]; show (List.replicate ((S : Int) + ns.length).toNat 0, []) = _; rw [HNt.out]
    have HR0 := Lib.hid hR0
    clear hR0
    go_loopw [11] (fun x wl => ∃ (k : Nat) (nv : Value), x = .int .i64 k ∧ k ≤ l.length ∧ wl.ownsRow w1.heap.size 3 1 (.slice (some ⟨w1.heap.size, 0, none⟩) N N) N (i64s (rs S ns (l.take k)).1) ∧
        wl.heap[w3.heap.size]? = some (.cells #[.int .i64 S, nv] 24 (0, 0)) ∧ wl.ownsRow (w3.heap.size + 1) 59 4 nv (rs S ns (l.take k)).2.length (flat (rs S ns (l.take k)).2) ∧ Fr [] w1 wl) (fun x _ => l.length - (intOf x).toNat)
    case atStart =>
      have ho := Ho3.out
      have hf := Hf3.out
      refine ⟨0, .slice none 0 0, rfl, by omega, ?_, by (repeat (first | rw [if_pos (by omega)] | rw [if_neg (by omega)] | rw [hp_drew] | rw [hp_drewN] | rw [hp_alloc_size] | rw [hp_setCell_size] | rw [hp_alloc] | rw [hp_setCell] | rw [Option.map_some] | rw [upd_cells] | rw [List.set_cons_zero] | rw [List.set_cons_succ] | rfl)), ?_, by (repeat (first | exact Fr.refl _ _ | assumption | apply Fr.drewN | apply Fr.drew | apply Fr.alloc | refine Fr.setCell ?_ (Or.inr (by simp; try omega)) _))⟩
      · rw [HR0.out]
        simp only [i64s, List.map_replicate]
        exact owns_of_block ho fun y hy => heap_alloc_else _ _ _ (owns_lt ho hy)
      · rw [HR0.out]
        exact World.ownsRow_nil _ _ _ _
    case round =>
      obtain ⟨k, nv, rfl, hk, ho, hb, hn, hf⟩ := hrel
      have hb5 := (hf.block _ hl0 (by simp)).trans Hb0.out
      have b0 := heap_eq_cell hb5 0
      have b1 := heap_eq_cell hb5 1
      have hb5l := lt_of_block hb5
      have hob := lt_of_block hb
      have hol := owns_lt ho rfl
      have q0 := heap_eq_cell hb 0
      have q1 := heap_eq_cell hb 1
      obtain ⟨na, nc, rfl, _, _⟩ := owns_form hn
      obtain ⟨hrl1, hrl2⟩ := rs_len S ns (l.take k)
      by_cases hlt : k < l.length
      · obtain ⟨gl, offl, rfl, hgl, hcl⟩ := Hla.out (by omega)
        obtain ⟨r, hr⟩ : ∃ r, l[k]? = some r := ⟨_, List.getElem?_eq_getElem hlt⟩
        have hrm := Hmem.out r (List.mem_of_getElem? hr)
        obtain ⟨R, rfl⟩ : ∃ R : Nat, r = R := ⟨r.toNat, by omega⟩
        have hRN : R < N := by omega
        have e1 := (hf.cell (p := ⟨gl, offl + k, none⟩) hgl (by simp)).trans (hcl k (.int .i64 R) (by rw [i64s, List.getElem?_map, hr]; rfl))
        have hglr : gl < wr.heap.size := by have := hf.size; omega
        have hsn : rs S ns (l.take (k + 1)) = rsStep S ns (rs S ns (l.take k)) R := by rw [List.take_add_one, hr]; exact rs_snoc _ _ _ _
        generalize rs S ns (l.take k) = st at *
        obtain ⟨t, out⟩ := st
        simp only at *
        have htl : t.length = N := by rw [hrl1]; exact HNt.out
        have hout : out.length ≤ 200000 := by have h1 := List.length_take_le k l; simp only [List.length_take] at hrl2 h1; omega
        have hcz := owns_cell ho rfl (i64s_get (t := t) (n := R) (by omega))
        have hz := owns_frozen ho rfl R
        have Hsn := Lib.hid hsn
        have Ho5 := Lib.hid ho
        have Hb5 := Lib.hid hb
        have Hn5 := Lib.hid hn
        have Hf5 := Lib.hid hf
        have Htl := Lib.hid htl
        clear hsn ho hb hn hf hcl hr hrm hb5 htl hrl1
        by_cases hleaf : R < S
        · go_wp2
          go_roundw
          case rel =>
            refine ⟨k + 1, .slice na out.length nc, by go_num, by omega, ?_⟩
            rw [Hsn.out]
            unfold rsStep
            rw [if_pos (by omega)]
            have ho := Ho5.out
            have hf := Hf5.out
            refine ⟨by rw [i64s_seti, show ((R : Int)).toNat = R from rfl]; exact owns_set ho rfl (by rw [ho.1]; omega) _, (setCell_else _ _ _ (by simp; omega)).trans Hb5.out, owns_of_block Hn5.out fun y hy => setCell_else _ _ _ (by have := owns_ge Hn5.out hy; simp; omega), hf.setCell (.inr (by simp)) _⟩
          case measure => simp [intOf]; omega
        · obtain ⟨i, rfl⟩ : ∃ i, R = S + i := ⟨R - S, by omega⟩
          have hin : i < ns.length := by have := HNi.out; omega
          obtain ⟨x, hx⟩ : ∃ x, ns[i]? = some x := ⟨_, List.getElem?_eq_getElem hin⟩
          obtain ⟨g, off, rfl, hg, hc⟩ := Hav.out (by omega)
          obtain ⟨f0, f1, f2, f3⟩ := flat_get hx
          rw [Nat.mul_comm] at f0 f1 f2 f3
          have hfw : Fr [] w wr := Hf.out.trans0 Hf5.out
          have hgw : ∀ j, wr.cell? ⟨g, off + j, none⟩ = w.cell? ⟨g, off + j, none⟩ := fun j => hfw.cell (p := ⟨g, off + j, none⟩) hg (by simp)
          have n0 := (hgw _).trans (hc _ _ f0)
          have n1 := (hgw _).trans (hc _ _ f1)
          have n2 := (hgw _).trans (hc _ _ f2)
          have n3 := (hgw _).trans (hc _ _ f3)
          simp only [← Nat.add_assoc] at n1 n2 n3
          have hgr : g < wr.heap.size := by have := hfw.size; omega
          have Hx := Lib.hid hx
          have hkids := good_kids Hg.out hx
          clear hx hc f0 f1 f2 f3 hgw hfw
          go_wp2_with fail
          obtain ⟨W4, hW4⟩ : ∃ W, W = wr.setCell ⟨w1.heap.size, S + i, none⟩ (.int .i64 ((S : Int) + i)) := ⟨_, rfl⟩
          rw [← hW4]
          obtain ⟨t1, ht1⟩ : ∃ t1, t1 = seti t ((S : Int) + i) ((S : Int) + i) := ⟨_, rfl⟩
          have hs4 : W4.heap.size = wr.heap.size := by rw [hW4, hp_setCell_size]
          have ho6 : W4.ownsRow w1.heap.size 3 1 (.slice (some ⟨w1.heap.size, 0, none⟩) N N) N (i64s t1) := by
            have h1 := owns_set Ho5.out rfl (j := S + i) (by rw [Ho5.out.1]; omega) (.int .i64 ((S : Int) + i))
            rw [hW4, ht1, i64s_seti, show ((S : Int) + i).toNat = S + i by omega]
            exact h1
          have hf6 : Fr [] w1 W4 := by rw [hW4]; exact Hf5.out.setCell (.inr (by simp)) _
          have hb6 : W4.heap[w3.heap.size]? = some (.cells #[.int .i64 S, .slice na out.length nc] 24 (0, 0)) := by
            rw [hW4]; exact (setCell_else _ _ _ (by simp; omega)).trans Hb5.out
          have hn6 : W4.ownsRow (w3.heap.size + 1) 59 4 (.slice na out.length nc) out.length (flat out) := by
            rw [hW4]; exact owns_of_block Hn5.out fun y hy => setCell_else _ _ _ (by have := owns_ge Hn5.out hy; simp; omega)
          have Ho6 := Lib.hid ho6
          have Hf6 := Lib.hid hf6
          have Hb6 := Lib.hid hb6
          have Hn6 := Lib.hid hn6
          have Hs4 := Lib.hid hs4
          have Ht1 := Lib.hid ht1
          have Hkids := Lib.hid hkids
          have hob4 : w3.heap.size < W4.heap.size := lt_of_block hb6
          have hol4 : w1.heap.size < W4.heap.size := owns_lt ho6 rfl
          clear hW4 ht1 ho6 hf6 hb6 hn6 hs4 hkids n0 n1 n2 n3 e1 b0 b1 q0 q1 hcz hz
          obtain ⟨xb, hxb⟩ : ∃ xb, xb = wr.heap.size := ⟨_, rfl⟩
          have Hxb := Lib.hid hxb
          rw [← hxb]
          clear hxb
          obtain ⟨⟨ka0, ka1⟩, ⟨kb0, kb1⟩, ⟨kc0, kc1⟩, ⟨kd0, kd1⟩⟩ := Hkids.out
          have ht1l : t1.length = N := by rw [Ht1.out, seti_length]; exact Htl.out
          obtain ⟨ka, kb, kc, kd⟩ := x
          simp only at ka0 ka1 kb0 kb1 kc0 kc1 kd0 kd1
          obtain ⟨ka, rfl⟩ : ∃ n : Nat, ka = n := ⟨ka.toNat, by omega⟩
          obtain ⟨kb, rfl⟩ : ∃ n : Nat, kb = n := ⟨kb.toNat, by omega⟩
          obtain ⟨kc, rfl⟩ : ∃ n : Nat, kc = n := ⟨kc.toNat, by omega⟩
          obtain ⟨kd, rfl⟩ : ∃ n : Nat, kd = n := ⟨kd.toNat, by omega⟩
          have hka : ka < N := by omega
          have hkb : kb < N := by omega
          have hkc : kc < N := by omega
          have hkd : kd < N := by omega
          have c0 := owns_cell Ho6.out rfl (i64s_get (t := t1) (n := ka) (by omega))
          have c1 := owns_cell Ho6.out rfl (i64s_get (t := t1) (n := kb) (by omega))
          have c2 := owns_cell Ho6.out rfl (i64s_get (t := t1) (n := kc) (by omega))
          have c3 := owns_cell Ho6.out rfl (i64s_get (t := t1) (n := kd) (by omega))
          have hr : ren t1 ⟨ka, kb, kc, kd⟩ = ⟨geti t1 ka, geti t1 kb, geti t1 kc, geti t1 kd⟩ := rfl
          have Hren := Lib.hid hr
          clear hr
          generalize geti t1 ka = va at *
          generalize geti t1 kb = vb at *
          generalize geti t1 kc = vc at *
          generalize geti t1 kd = vd at *
          have C0 := Lib.hid c0
          have C1 := Lib.hid c1
          have C2 := Lib.hid c2
          have C3 := Lib.hid c3
          clear c0 c1 c2 c3
          go_loopw [14] (fun x wl => ∃ (j : Nat), x = .int .i64 j ∧ j ≤ 4 ∧ wl.heap[xb]? = some (.cells (rj ⟨ka, kb, kc, kd⟩ ⟨va, vb, vc, vd⟩ j) 59 (0, 0)) ∧ Fr [] W4 wl) (fun x _ => 4 - (intOf x).toNat)
          case atStart => exact ⟨0, rfl, by omega, by rw [hp_alloc, if_pos (by rw [Hxb.out, Hs4.out])]; rfl, by (repeat (first | exact Fr.refl _ _ | assumption | apply Fr.drewN | apply Fr.drew | apply Fr.alloc | refine Fr.setCell ?_ (Or.inr (by simp; try omega)) _))⟩
          case round =>
            obtain ⟨j, rfl, hj, hbx, hfx⟩ := hrel
            have e0 := (hfx.cell (p := ⟨w1.heap.size, ka, none⟩) hol4 (by simp)).trans C0.out
            have e1 := (hfx.cell (p := ⟨w1.heap.size, kb, none⟩) hol4 (by simp)).trans C1.out
            have e2 := (hfx.cell (p := ⟨w1.heap.size, kc, none⟩) hol4 (by simp)).trans C2.out
            have e3 := (hfx.cell (p := ⟨w1.heap.size, kd, none⟩) hol4 (by simp)).trans C3.out
            have hol5 : w1.heap.size < wr.heap.size := by have := hfx.size; omega
            have hxl := lt_of_block hbx
            have Hfx := Lib.hid hfx
            clear hfx
            have hj5 : j = 0 ∨ j = 1 ∨ j = 2 ∨ j = 3 ∨ j = 4 := by omega
            rcases hj5 with rfl | rfl | rfl | rfl | rfl
            all_goals
              simp only [rj] at hbx
              have d0 := heap_eq_cell hbx 0
              have d1 := heap_eq_cell hbx 1
              have d2 := heap_eq_cell hbx 2
              have d3 := heap_eq_cell hbx 3
              have y0 := heap_eq_frozen hbx 0
              have y1 := heap_eq_frozen hbx 1
              have y2 := heap_eq_frozen hbx 2
              have y3 := heap_eq_frozen hbx 3
              have Hbx := Lib.hid hbx
              clear hbx
            rotate_right
            · have hf7 : Fr [] w1 wr := Hf6.out.trans0 Hfx.out
              have ho7 := owns_of_block Ho6.out fun y hy => Hfx.out.block y (owns_lt Ho6.out hy) (by simp)
              have hn7 := owns_of_block Hn6.out fun y hy => Hfx.out.block y (owns_lt Hn6.out hy) (by simp)
              have hb7 := (Hfx.out.block _ hob4 (by simp)).trans Hb6.out
              have q0 := heap_eq_cell hb7 0
              have q1 := heap_eq_cell hb7 1
              have hob7 := lt_of_block hb7
              have hbb := (hf7.block _ hl0 (by simp)).trans Hb0.out
              have b0 := heap_eq_cell hbb 0
              have b1 := heap_eq_cell hbb 1
              have hbbl := lt_of_block hbb
              have hcz := owns_cell ho7 rfl (i64s_get (t := t1) (n := S + i) (by omega))
              have hz := owns_frozen ho7 rfl (S + i)
              have Hf7 := Lib.hid hf7
              have Ho7 := Lib.hid ho7
              have Hn7 := Lib.hid hn7
              have Hb7 := Lib.hid hb7
              have hxw : w1.heap.size < xb := by rw [Hxb.out, ← Hs4.out]; exact hol4
              have hox : w3.heap.size < xb := by rw [Hxb.out, ← Hs4.out]; exact hob4
              clear hf7 ho7 hn7 hb7 hbb e0 e1 e2 e3
              have hsw := owns_set Ho7.out rfl (j := S + i) (by rw [Ho7.out.1]; omega) (.int .i64 ((S : Int) + out.length))
              have Hset := Lib.hid hsw
              clear hsw
              go_wp2_with (at_builtin; refine append_quad (k := ⟨va, vb, vc, vd⟩) (n := out.length) (base := w3.heap.size + 1) (xs := flat out) rfl rfl rfl ?e1 rfl ?e2 ?e3 ?e4 ?_)
              case e1 =>
                refine owns_of_block Hn7.out fun z hz => ?_
                have h1 := owns_lt Hn7.out hz
                have h2 := owns_ge Hn7.out hz
                rw [heap_alloc_else _ _ _ (by first | exact h1 | (rw [hp_setCell_size]; exact h1)), setCell_else _ _ _ (by first | omega | (simp; omega))]
              case e2 => exact (Array.getElem?_eq_some_iff.1 ((hp_alloc _ _ _).trans (if_pos (hp_setCell_size _ _ _).symm))).2
              case e3 => omega
              case e4 => (first | omega | (rw [hp_alloc_size]; omega) | (simp only [hp_drew, hp_drewN, hp_alloc_size]; omega) | (simp; omega))
              intro g' cap w9 hown9 hW9 hF9 hloc9 hg9
              have hne : ∀ z, (Value.slice na out.length nc).ownBlock = some z → w3.heap.size + 1 ≤ z := fun z hz => owns_ge Hn7.out hz
              have hw13 : w1.heap.size < w3.heap.size := hsz3
              have hb8 : (wr.setCell ⟨w1.heap.size, S + i, none⟩ (.int .i64 ((S : Int) + out.length))).heap[w3.heap.size]? = _ := (setCell_else _ _ _ (by first | omega | (simp; omega))).trans Hb7.out
              have old : ∀ z, z < w3.heap.size + 1 → w9.heap[z]? = (wr.setCell ⟨w1.heap.size, S + i, none⟩ (.int .i64 ((S : Int) + out.length))).heap[z]? := fun z hz => (hW9 z (by first | omega | (simp; omega)) (fun e => by have := hne z e; omega)).trans (heap_alloc_else _ _ _ (by rw [hp_setCell_size]; omega))
              have hb9 := (old w3.heap.size (by omega)).trans hb8
              have o0 := heap_eq_cell hb9 0
              have o1 := heap_eq_cell hb9 1
              have p1 := heap_eq_frozen hb9 1
              have hb9l := lt_of_block hb9
              have Ho9 := Lib.hid (owns_of_block Hset.out fun z hz => old z (by
                have : w1.heap.size = z := by simpa [Value.ownBlock] using hz
                omega))
              have Hb9 := Lib.hid hb9
              have Hown9 := Lib.hid hown9
              have Hf9 := Lib.hid (((Hf7.out.setCell (.inr (by simp)) _).alloc _).trans hF9 fun z hz => .inr (by have := hne z (by simpa using hz); omega))
              clear hown9 hW9 hF9 hloc9 hne old hb9 hb8
              go_wp2
              go_roundw
              case rel =>
                have hG : w3.heap.size + 1 ≤ g' := owns_ge Hown9.out rfl
                refine ⟨k + 1, .slice (some ⟨g', 0, none⟩) (out.length + 1) cap, by go_num, by omega, ?_⟩
                rw [Hsn.out]
                unfold rsStep
                rw [show ((S + i : Nat) : Int) = (S : Int) + i by omega, if_neg (by omega), show ((S : Int) + i - S).toNat = i by omega, Hx.out]
                simp only [← Ht1.out]
                rw [Hren.out]
                simp only [List.length_append, List.length_cons, List.length_nil, flat_snoc]
                refine ⟨owns_of_block (by rw [i64s_seti, show ((S : Int) + i).toNat = S + i by omega]; exact Ho9.out) fun z hz => ?_, ?_, owns_of_block Hown9.out fun z hz => ?_, Hf9.out.setCell (.inr (by simp; omega)) _⟩
                · have : w1.heap.size = z := by simpa [Value.ownBlock] using hz
                  rw [hp_setCell, if_neg (by omega)]
                · rw [hp_setCell, if_pos rfl, Hb9.out]; rfl
                · have : g' = z := by simpa [Value.ownBlock] using hz
                  rw [hp_setCell, if_neg (by omega)]
              case measure => simp [intOf]; omega
            all_goals go_wp2
            all_goals go_roundw
            any_goals (case measure => simp [intOf])
            · exact ⟨1, by go_num, by omega, by rw [heap_setCell_here Hbx.out]; rfl, Hfx.out.setCell (.inr (by have := Hxb.out; have := Hs4.out; simp; omega)) _⟩
            · exact ⟨2, by go_num, by omega, by rw [heap_setCell_here Hbx.out]; rfl, Hfx.out.setCell (.inr (by have := Hxb.out; have := Hs4.out; simp; omega)) _⟩
            · exact ⟨3, by go_num, by omega, by rw [heap_setCell_here Hbx.out]; rfl, Hfx.out.setCell (.inr (by have := Hxb.out; have := Hs4.out; simp; omega)) _⟩
            · exact ⟨4, by go_num, by omega, by rw [heap_setCell_here Hbx.out]; rfl, Hfx.out.setCell (.inr (by have := Hxb.out; have := Hs4.out; simp; omega)) _⟩
      · obtain rfl : k = l.length := by omega
        rw [List.take_length] at ho hn hrl1 hrl2
        try rw [List.take_length] at hb
        try rw [List.take_length]
        obtain ⟨hrw1, hrw2⟩ := rs_sw Hg.out (fun i k j h1 h2 h3 => Hmk.out.down i k j h1 h2 h3) ns.length (Nat.le_refl _)
        have hlN : l = nl m (S + ns.length) := by rw [Hle.out, show N = S + ns.length by have := HNi.out; omega]
        rw [show ((S : Int)).toNat = S from rfl, ← hlN] at hrw1 hrw2
        have hoM : roots.map (geti (sw S ns m ns.length).1) = roots.map (geti (rs S ns l).1) := List.map_congr_left fun r hr => by
          have hk := Hmk.out.root r hr
          exact (hrw2 r hk.1.1 (by have := hk.1.2; omega) hk.2).symm
        generalize rs S ns l = st at *
        obtain ⟨t, out⟩ := st
        simp only at *
        have htl : t.length = N := by rw [hrl1]; exact HNt.out
        have hbr := (hf.block _ hl1 (by simp)).trans Hb1.out
        obtain ⟨wz, rfl⟩ : ∃ wz : World, wz = wr := ⟨_, rfl⟩
        have HoM := Lib.hid hoM
        have Hrw1 := Lib.hid hrw1
        have Htl := Lib.hid htl
        have Ho5 := Lib.hid ho
        have Hb5 := Lib.hid hb
        have Hn5 := Lib.hid hn
        have Hf5 := Lib.hid hf
        have Hbr := Lib.hid hbr
        have Hbb := Lib.hid hb5
        have hlr1 : w.heap.size + 1 < wz.heap.size := by have := hf.size; omega
        clear ho hb hn hf hb5 hrl1 hrl2 hrw1 hrw2 hlN hoM htl hbr b0 b1 q0 q1
        obtain ⟨_, ra, rc, rfl, har⟩ := Hr.out
        have Har := Lib.hid har
        clear har
        have hfz := Lib.hid (Hf.out.trans0 Hf5.out)
        go_wp2_with fail
        go_loopw [15, 16] (fun o x wl => ∃ (k : Nat), x = .int .i64 k ∧ k ≤ roots.length ∧ wl.ownsRow wz.heap.size 3 1 o k (i64s ((roots.map (geti t)).take k)) ∧ Fr [] wz wl) (fun _ x _ => roots.length - (intOf x).toNat)
        case atStart => exact ⟨0, rfl, by omega, World.ownsRow_nil _ _ _ _, Fr.refl _ _⟩
        case round =>
          obtain ⟨k, rfl, hk, ho, hf⟩ := hrel
          obtain ⟨oa, oc, rfl, _, _⟩ := owns_form ho
          have Hoo := Lib.hid ho
          have Hff := Lib.hid hf
          have hsz := hf.size
          by_cases hlt : k < roots.length
          · obtain ⟨g1, off1, rfl, hg1, hc1⟩ := Har.out (by omega)
            obtain ⟨r, hr⟩ : ∃ r, roots[k]? = some r := ⟨_, List.getElem?_eq_getElem hlt⟩
            have hkn := (Hmk.out.root r (List.mem_of_getElem? hr)).1
            obtain ⟨R, rfl⟩ : ∃ R : Nat, r = R := ⟨r.toNat, by have := hkn.1; omega⟩
            have hRN : R < N := by have := hkn.2; have := HNi.out; omega
            have e1 := (hf.cell (p := ⟨g1, off1 + k, none⟩) (by have := hfz.out.size; show g1 < _; omega) (by simp)).trans ((hfz.out.cell (p := ⟨g1, off1 + k, none⟩) hg1 (by simp)).trans (hc1 k (.int .i64 R) (by rw [i64s, List.getElem?_map, hr]; rfl)))
            have ht1 := owns_cell Ho5.out rfl (i64s_get (t := t) (n := R) (by have := Htl.out; omega))
            have hwl := owns_lt Ho5.out rfl
            have ht2 := (hf.cell (p := ⟨w1.heap.size, R, none⟩) hwl (by simp)).trans ht1
            have hwr : w1.heap.size < wr.heap.size := by omega
            have hg1r : g1 < wr.heap.size := by have := hfz.out.size; omega
            have hsn : i64s ((roots.map (geti t)).take k) ++ [.int .i64 (geti t R)] = i64s ((roots.map (geti t)).take (k + 1)) := by
              rw [List.take_add_one, List.getElem?_map, hr, ← i64s_snoc]; rfl
            have Hsn := Lib.hid hsn
            clear hc1 hr hkn hsn ho hf ht1 hwl
            generalize geti t R = y at *
            go_wp2_with (at_builtin; refine append_i64 (n := k) (base := wz.heap.size) (xs := i64s ((roots.map (geti t)).take k)) (y := y) rfl rfl rfl ?e1 rfl ?e2 ?e3 ?e4 ?_)
            case e1 => exact owns_of_block Hoo.out fun y hy => heap_alloc_else _ _ _ (owns_lt Hoo.out hy)
            case e2 => (first | (rw [hp_alloc, if_pos rfl]; done) | exact (Array.getElem?_eq_some_iff.1 ((hp_alloc _ _ _).trans (if_pos rfl))).2 | (simp only [hp_drew, hp_drewN]; rw [hp_alloc, if_pos rfl]; done))
            case e3 => omega
            case e4 => (first | omega | (rw [hp_alloc_size]; omega) | (simp only [hp_drew, hp_drewN, hp_alloc_size]; omega) | (simp; omega))
            intro g cap w9 hown1 hW1 hF1 hloc1 hg9
            rw [Hsn.out] at hown1
            have Hown1 := Lib.hid hown1
            have Hf1 := Lib.hid (fr_append Hff.out Hoo.out hF1)
            clear hown1 hW1 hF1 hloc1
            go_wp2
            go_roundw
            case rel => exact ⟨k + 1, by go_num, by omega, Hown1.out, Hf1.out⟩
            case measure => simp [intOf]; omega
          · obtain rfl : k = roots.length := by omega
            have hbr := (hf.block _ hlr1 (by simp)).trans Hbr.out
            have hbq := (hf.block _ (lt_of_block Hb5.out) (by simp)).trans Hb5.out
            have f0 := heap_eq_frozen hbr 0
            have f1 := heap_eq_frozen hbr 1
            have o0 := heap_eq_cell hbr 0
            have o1 := heap_eq_cell hbr 1
            have q0 := heap_eq_cell hbq 0
            have q1 := heap_eq_cell hbq 1
            have hlr2 := lt_of_block hbr
            have hlq2 := lt_of_block hbq
            have Hbr2 := Lib.hid hbr
            clear ho hf hbr hbq
            go_wp2
            (try simp only [Exit.inBlock, Exit.then])
            refine bodyPost_ret (RSweep_result (b := w.heap.size + 1) (x := .int .i64 S) (y := .slice na out.length nc) rfl ?_ rfl rfl) rfl ⟨fun h => (by rw [Hm.out] at h; cases h), fun m' h => ?_⟩
            · have h1 := Hbr2.out
              (repeat (first | rw [if_pos (by omega)] | rw [if_neg (by omega)] | rw [hp_drew] | rw [hp_drewN] | rw [hp_alloc_size] | rw [hp_setCell_size] | rw [hp_alloc] | rw [hp_setCell] | rw [Option.map_some] | rw [upd_cells] | rw [List.set_cons_zero] | rw [List.set_cons_succ] | rfl))
              rw [h1]
              (repeat (first | rw [if_pos (by omega)] | rw [if_neg (by omega)] | rw [hp_drew] | rw [hp_drewN] | rw [hp_alloc_size] | rw [hp_setCell_size] | rw [hp_alloc] | rw [hp_setCell] | rw [Option.map_some] | rw [upd_cells] | rw [List.set_cons_zero] | rw [List.set_cons_succ] | rfl))
            · rw [Hm.out] at h
              cases h
              rw [HoM.out, ← Hrw1.out]
              have ho := Hoo.out
              rw [List.take_of_length_le (by simp)] at ho
              have hw := Hf.out.size
              have hw2 := Hf5.out.size
              have hn := Hn5.out
              refine ⟨_, _, rfl, owns_base (owns_of_block (owns_of_block hn fun z hz => Hff.out.block z (owns_lt hn hz) (by simp)) fun z hz => ?_) (by omega), owns_base (owns_of_block ho fun z hz => ?_) (by omega), ?_⟩
              · have := owns_ge hn hz
                rw [setCell_else _ _ _ (by simp; omega), setCell_else _ _ _ (by simp; omega)]
              · have := owns_ge ho hz
                rw [setCell_else _ _ _ (by simp; omega), setCell_else _ _ _ (by simp; omega)]
              · exact ((hfz.out.trans0 Hff.out).setCell (.inr (by simp)) _).setCell (.inr (by simp)) _
end Go.Proofs.Ytgeomalefpjfdaa
