/- The reference of Alike. -/
import Derived.Test.YtgeomalefpjfdaaVd
namespace Go.Proofs.Qs
def kj (k : K4) : Nat → Int
  | 0 => k.a
  | 1 => k.b
  | 2 => k.c
  | _ => k.d
def allj (k : K4) : Nat → Bool
  | 0 => true
  | n + 1 => allj k n && decide (0 ≤ kj k n)
theorem ra_succ_leaf {s t : Int} {ns ms : List K4} {n : Nat} (h : (n : Int) < s) : ra s ns t ms (n + 1) = seti (ra s ns t ms n) n (if (n : Int) < t then n else -1) := by
  rw [ra]; unfold raAt; rw [if_pos h]
theorem ra_succ_node {s t : Int} {ns ms : List K4} {i : Nat} {k : K4} {n : Nat} (hn : (n : Int) = s + i) (hk : ns[i]? = some k) :
    ra s ns t ms (n + 1) = seti (ra s ns t ms n) n (if allj (ren (ra s ns t ms n) k) 4 then (match ms.idxOf? (ren (ra s ns t ms n) k) with
      | some o => t + (o : Nat)
      | none => -1) else -1) := by
  rw [ra]; unfold raAt
  rw [if_neg (by omega), show ((n : Int) - s).toNat = i by omega, hk]
  simp only
  unfold raNode
  generalize ren (ra s ns t ms n) k = q
  have e : (allj q 4 = true) ↔ (0 ≤ q.a ∧ 0 ≤ q.b ∧ 0 ≤ q.c ∧ 0 ≤ q.d) := by
    simp [allj, kj, and_assoc]
  by_cases h : 0 ≤ q.a ∧ 0 ≤ q.b ∧ 0 ≤ q.c ∧ 0 ≤ q.d
  · rw [if_pos h, if_pos (e.2 h)]; rfl
  · rw [if_neg h, if_neg (fun x => h (e.1 x))]
end Go.Proofs.Qs
namespace Go.Proofs.Ytgeomalefpjfdaa
open Go Go.RowKit Go.Proofs.Rg Go.Proofs.Mp Go.Proofs.Hp Go.Proofs.Qs
set_option linter.unusedVariables false
theorem row_set2 {w : World} {base e n g cap j : Nat} {xs : List Value} (h : w.ownsRow base e 1 (.slice (some ⟨g, 0, none⟩) n cap) n xs) (hj : j < xs.length) (a b : Value) :
    ((w.setCell ⟨g, j, none⟩ a).setCell ⟨g, j, none⟩ b).ownsRow base e 1 (.slice (some ⟨g, 0, none⟩) n cap) n (xs.set j b) := by
  have h2 := owns_set (owns_set h rfl hj a) rfl (by rw [List.length_set]; exact hj) b
  rwa [List.set_set] at h2
theorem minus_one (n : Nat) : i64s (List.replicate n 0) = List.replicate n (.int .i64 0) := by simp [i64s]
set_option maxHeartbeats 16000000 in
set_option maxRecDepth 100000 in
theorem RAlike_calls {w : World} {s t : Int} {ns ms : List K4} {v uv : Value} (hg : GoodQ s ns) (hg' : GoodQ t ms) (hv : Reads w v ns.length 4 (flat ns)) (hu : Reads w uv ms.length 4 (flat ms)) (x y : Int) :
    Calls Try.prog 22 #[.agg #[.int .i64 s, v], .int .i64 x, .agg #[.int .i64 t, uv], .int .i64 y] w fun e w' => e = .returned (.bool (decide (Alk s ns x t ms y))) ∧ Fr [] w w' := by
  obtain ⟨_, a, c, rfl, hav⟩ := hv
  have hu' := hu
  obtain ⟨_, ua, uc, rfl, _⟩ := hu'
  have Hu := Lib.hid hu
  have hs1 := hg.1
  have hs2 := hg.2.1
  have hln := hg.2.2.1
  have ht1 := hg'.1
  have ht2 := hg'.2.1
  have hlm := hg'.2.2.1
  obtain ⟨S, rfl⟩ : ∃ S : Nat, s = S := ⟨s.toNat, by omega⟩
  obtain ⟨T, rfl⟩ : ∃ T : Nat, t = T := ⟨t.toNat, by omega⟩
  have Hg := Lib.hid hg
  have Hg' := Lib.hid hg'
  have Hav := Lib.hid hav
  have hK1 : ∀ w1, Calls Try.prog 23 #[.agg #[.int .i64 S, .slice a ns.length c], .int .i64 x] w1 fun e w' => e = .returned (.bool (decide (Kn S ns x))) ∧ Fr [] w1 w' := fun w1 => Known_calls (by omega) (by omega)
  have hK2 : ∀ w1, Calls Try.prog 23 #[.agg #[.int .i64 T, .slice ua ms.length uc], .int .i64 y] w1 fun e w' => e = .returned (.bool (decide (Kn T ms y))) ∧ Fr [] w1 w' := fun w1 => Known_calls (by omega) (by omega)
  clear hg hg' hav hu
  by_cases hx : Kn S ns x
  rotate_left
  · rw [decide_eq_false hx] at hK1
    have Hno := Lib.hid (show decide (Alk S ns x T ms y) = false from decide_eq_false fun h => hx h.1)
    have HK1 := Lib.hid hK1
    clear hK1 hK2 hx
    go_enter Try.func22, Try.ntmps22
    go_wp2_with fail
    refine (HK1.out _).mono ?_
    rintro e w1 ⟨rfl, hf⟩
    have Hf := Lib.hid (Fr.trans0 (by (repeat (first | exact Fr.refl _ _ | assumption | apply Fr.drewN | apply Fr.drew | apply Fr.alloc | refine Fr.setCell ?_ (Or.inr (by simp; try omega)) _)) : Fr [] w _) hf)
    clear hf
    go_wp2
    go_ret
    exact ⟨by rw [Hno.out]; rfl, Hf.out⟩
  by_cases hy : Kn T ms y
  rotate_left
  · rw [decide_eq_false hy] at hK2
    rw [decide_eq_true hx] at hK1
    have Hno := Lib.hid (show decide (Alk S ns x T ms y) = false from decide_eq_false fun h => hy h.2.1)
    have HK1 := Lib.hid hK1
    have HK2 := Lib.hid hK2
    clear hK1 hK2 hx hy
    go_enter Try.func22, Try.ntmps22
    go_wp2_with fail
    refine (HK1.out _).mono ?_
    rintro e w1 ⟨rfl, hf⟩
    have hbt := (hf.block (w.heap.size + 1) (by simp) (by simp)).trans (show _ = some (.cells #[.int .i64 T, .slice ua ms.length uc] 24 (0, 0)) by (repeat (first | rw [if_pos (by omega)] | rw [if_neg (by omega)] | rw [hp_drew] | rw [hp_drewN] | rw [hp_alloc_size] | rw [hp_setCell_size] | rw [hp_alloc] | rw [hp_setCell] | rw [Option.map_some] | rw [upd_cells] | rw [List.set_cons_zero] | rw [List.set_cons_succ] | rfl)))
    have t0 := heap_eq_cell hbt 0
    have t1 := heap_eq_cell hbt 1
    have hlt := lt_of_block hbt
    have Hf := Lib.hid (Fr.trans0 (by (repeat (first | exact Fr.refl _ _ | assumption | apply Fr.drewN | apply Fr.drew | apply Fr.alloc | refine Fr.setCell ?_ (Or.inr (by simp; try omega)) _)) : Fr [] w _) hf)
    clear hf hbt
    go_wp2_with fail
    refine (HK2.out _).mono ?_
    rintro e w2 ⟨rfl, hf⟩
    have Hf2 := Lib.hid (Hf.out.trans0 hf)
    clear hf
    go_wp2
    go_ret
    exact ⟨by rw [Hno.out]; rfl, Hf2.out⟩
  rw [decide_eq_true hy] at hK2
  rw [decide_eq_true hx] at hK1
  obtain ⟨N, hN⟩ : ∃ N : Nat, N = S + ns.length := ⟨_, rfl⟩
  have HNi := Lib.hid (show (S : Int) + ns.length = N by omega)
  have hNb : N ≤ 200000 := by omega
  have hSN : S ≤ N := by omega
  obtain ⟨X, rfl⟩ : ∃ X : Nat, x = X := ⟨x.toNat, by have := hx.1; omega⟩
  have hXN : X < N := by have := hx.2; omega
  have halk := ra_alk Hg.out Hg'.out hx hy
  rw [show ((S : Int) + ns.length).toNat = N by omega] at halk
  have Halk := Lib.hid halk
  have HK1 := Lib.hid hK1
  have HK2 := Lib.hid hK2
  have hra0 : ra S ns T ms 0 = List.replicate N 0 := by show List.replicate ((S : Int) + ns.length).toNat 0 = _; rw [show ((S : Int) + ns.length).toNat = N by omega]
  have Hra0 := Lib.hid hra0
  clear hK1 hK2 hx hy hN halk hra0
  go_enter Try.func22, Try.ntmps22
  go_wp2_with fail
  refine (HK1.out _).mono ?_
  rintro e w1 ⟨rfl, hf⟩
  have hbs := (hf.block w.heap.size (by simp; omega) (by simp)).trans (show _ = some (.cells #[.int .i64 S, .slice a ns.length c] 24 (0, 0)) by (repeat (first | rw [if_pos (by omega)] | rw [if_neg (by omega)] | rw [hp_drew] | rw [hp_drewN] | rw [hp_alloc_size] | rw [hp_setCell_size] | rw [hp_alloc] | rw [hp_setCell] | rw [Option.map_some] | rw [upd_cells] | rw [List.set_cons_zero] | rw [List.set_cons_succ] | rfl)))
  have hbt := (hf.block (w.heap.size + 1) (by simp) (by simp)).trans (show _ = some (.cells #[.int .i64 T, .slice ua ms.length uc] 24 (0, 0)) by (repeat (first | rw [if_pos (by omega)] | rw [if_neg (by omega)] | rw [hp_drew] | rw [hp_drewN] | rw [hp_alloc_size] | rw [hp_setCell_size] | rw [hp_alloc] | rw [hp_setCell] | rw [Option.map_some] | rw [upd_cells] | rw [List.set_cons_zero] | rw [List.set_cons_succ] | rfl)))
  have t0 := heap_eq_cell hbt 0
  have t1 := heap_eq_cell hbt 1
  have hlt := lt_of_block hbt
  have Hf := Lib.hid (Fr.trans0 (by (repeat (first | exact Fr.refl _ _ | assumption | apply Fr.drewN | apply Fr.drew | apply Fr.alloc | refine Fr.setCell ?_ (Or.inr (by simp; try omega)) _)) : Fr [] w _) hf)
  have Hbs := Lib.hid hbs
  have Hbt := Lib.hid hbt
  clear hf hbt hbs
  go_wp2_with fail
  refine (HK2.out _).mono ?_
  rintro e w2 ⟨rfl, hf⟩
  clear t0 t1
  have hbs := (hf.block w.heap.size (by omega) (by simp)).trans Hbs.out
  have hbt := (hf.block (w.heap.size + 1) hlt (by simp)).trans Hbt.out
  have b0 := heap_eq_cell hbs 0
  have b1 := heap_eq_cell hbs 1
  have hls := lt_of_block hbs
  have hlt2 := lt_of_block hbt
  have Hf2 := Lib.hid (Hf.out.trans0 hf)
  have Hbs2 := Lib.hid hbs
  have Hbt2 := Lib.hid hbt
  clear hf hbs hbt
  go_wp2_with (refine wpList_make1 rfl (t := 25) (e := 3) (n := N) (z := .int .i64 0) (bytes := 8) rfl (congrArg (Value.int .i64) HNi.out) (congrArg (Value.int .i64) HNi.out) Try.underlying25 info_i64 rfl ?e1 ?e2 ?_)
  case e1 => omega
  case e2 => unfold maxLen; omega
  clear b0 b1
  intro w3 ho3 hf3 hsz3
  have Ho3 := Lib.hid ho3
  have Hf3 := Lib.hid (Hf2.out.trans0 hf3)
  have Hbs3 := Lib.hid ((hf3.block _ hls (by simp)).trans Hbs2.out)
  have Hbt3 := Lib.hid ((hf3.block _ hlt2 (by simp)).trans Hbt2.out)
  have hls3 := lt_of_block Hbs3.out
  have hlt3 := lt_of_block Hbt3.out
  have hwlt : w.heap.size + 1 < w2.heap.size := hlt2
  clear ho3 hf3
  obtain ⟨B, hB⟩ : ∃ B, B = w2.heap.size := ⟨_, rfl⟩
  have ho3 := Ho3.out
  rw [← hB] at ho3
  have Ho4 := Lib.hid ho3
  have HB := Lib.hid hB
  rw [← hB]
  clear hB ho3
  go_wp2_with fail
  go_loopw [11] (fun xx wl => ∃ (k : Nat), xx = .int .i64 k ∧ k ≤ N ∧ wl.ownsRow B 3 1 (.slice (some ⟨B, 0, none⟩) N N) N (i64s (ra S ns T ms k)) ∧ Fr [] w wl ∧
      wl.heap[w.heap.size]? = some (.cells #[.int .i64 S, .slice a ns.length c] 24 (0, 0)) ∧ wl.heap[w.heap.size + 1]? = some (.cells #[.int .i64 T, .slice ua ms.length uc] 24 (0, 0))) (fun xx _ => N - (intOf xx).toNat)
  case atStart =>
    refine ⟨0, rfl, by omega, ?_, Hf3.out, Hbs3.out, Hbt3.out⟩
    rw [Hra0.out, minus_one]
    exact Ho4.out
  case round =>
    obtain ⟨k, rfl, hk, ho, hf, hbs, hbt⟩ := hrel
    have b0 := heap_eq_cell hbs 0
    have b1 := heap_eq_cell hbs 1
    have u0 := heap_eq_cell hbt 0
    have u1 := heap_eq_cell hbt 1
    have hls := lt_of_block hbs
    have hlt2 := lt_of_block hbt
    have hol := owns_lt ho rfl
    have hrl : (ra S ns T ms k).length = N := by rw [ra_len]; have := HNi.out; omega
    have hBw : w.heap.size + 1 < B := by have := HB.out; omega
    have Ho := Lib.hid ho
    have Hf := Lib.hid hf
    have Hbs := Lib.hid hbs
    have Hbt := Lib.hid hbt
    have Hrl := Lib.hid hrl
    by_cases hlt : k < N
    · have hkN : (k : Int) < (S : Int) + ns.length := by have := HNi.out; omega
      have hcz := owns_cell ho rfl (i64s_get (t := ra S ns T ms k) (n := k) (by omega))
      have hz := owns_frozen ho rfl k
      have hr2 := fun a b => row_set2 ho (j := k) (by rw [ho.1]; omega) a b
      have Hr2 := Lib.hid hr2
      clear ho hf hbs hbt hrl hr2
      by_cases hleaf : k < S
      · have hsn := ra_succ_leaf (s := S) (t := T) (ns := ns) (ms := ms) (n := k) (by omega)
        by_cases hkt : k < T
        · rw [if_pos (by omega)] at hsn
          have Hsn := Lib.hid hsn
          clear hsn
          generalize geti (ra S ns T ms k) (k : Int) = gg at *
          go_wp2
          go_roundw
          case rel =>
            refine ⟨k + 1, by go_num, by omega, ?_, (Hf.out.setCell (.inr (by simp; omega)) _).setCell (.inr (by simp; omega)) _, ?_, ?_⟩
            · rw [Hsn.out, i64s_seti, show ((k : Int)).toNat = k from rfl]; exact Hr2.out _ _
            · rw [setCell_else _ _ _ (by simp; omega), setCell_else _ _ _ (by simp; omega)]; exact Hbs.out
            · rw [setCell_else _ _ _ (by simp; omega), setCell_else _ _ _ (by simp; omega)]; exact Hbt.out
          case measure => simp [intOf]; omega
        · rw [if_neg (by omega)] at hsn
          have Hsn := Lib.hid hsn
          clear hsn
          generalize geti (ra S ns T ms k) (k : Int) = gg at *
          go_wp2
          go_roundw
          case rel =>
            refine ⟨k + 1, by go_num, by omega, ?_, Hf.out.setCell (.inr (by simp; omega)) _, ?_, ?_⟩
            · rw [Hsn.out, i64s_seti, show ((k : Int)).toNat = k from rfl]; exact owns_set Ho.out rfl (by rw [Ho.out.1]; omega) _
            · rw [setCell_else _ _ _ (by simp; omega)]; exact Hbs.out
            · rw [setCell_else _ _ _ (by simp; omega)]; exact Hbt.out
          case measure => simp [intOf]; omega
      · obtain ⟨i, rfl⟩ : ∃ i, k = S + i := ⟨k - S, by omega⟩
        have hin : i < ns.length := by omega
        obtain ⟨x, hx⟩ : ∃ x, ns[i]? = some x := ⟨_, List.getElem?_eq_getElem hin⟩
        have hsn := ra_succ_node (s := S) (t := T) (ns := ns) (ms := ms) (n := S + i) (by omega) hx
        obtain ⟨g, off, rfl, hg, hc⟩ := Hav.out (by omega)
        obtain ⟨f0, f1, f2, f3⟩ := flat_get hx
        rw [Nat.mul_comm] at f0 f1 f2 f3
        have hgw : ∀ j, wr.cell? ⟨g, off + j, none⟩ = w.cell? ⟨g, off + j, none⟩ := fun j => Hf.out.cell (p := ⟨g, off + j, none⟩) hg (by simp)
        have n0 := (hgw _).trans (hc _ _ f0)
        have n1 := (hgw _).trans (hc _ _ f1)
        have n2 := (hgw _).trans (hc _ _ f2)
        have n3 := (hgw _).trans (hc _ _ f3)
        simp only [← Nat.add_assoc] at n1 n2 n3
        have hgr : g < wr.heap.size := by have := Hf.out.size; omega
        have hgB : g < B := by omega
        have hkids := good_kids Hg.out hx
        have Hx := Lib.hid hx
        obtain ⟨t, ht⟩ : ∃ t, t = ra S ns T ms (S + i) := ⟨_, rfl⟩
        have Ht := Lib.hid ht
        rw [← ht] at hsn
        have Hsn := Lib.hid hsn
        have Hkids := Lib.hid hkids
        clear hx hc f0 f1 f2 f3 hgw hsn ht hkids
        generalize geti (ra S ns T ms (S + i)) ((S + i : Nat) : Int) = gg at *
        go_wp2_with fail
        obtain ⟨W4, hW4⟩ : ∃ W, W = wr.setCell ⟨B, S + i, none⟩ (.int .i64 (-1)) := ⟨_, rfl⟩
        rw [← hW4]
        obtain ⟨t1, ht1⟩ : ∃ t1, t1 = seti t ((S : Int) + i) (-1) := ⟨_, rfl⟩
        have hs4 : W4.heap.size = wr.heap.size := by rw [hW4, hp_setCell_size]
        have ho6 : W4.ownsRow B 3 1 (.slice (some ⟨B, 0, none⟩) N N) N (i64s t1) := by
          have h1 := owns_set Ho.out rfl (j := S + i) (by rw [Ho.out.1]; omega) (.int .i64 (-1))
          rw [hW4, ht1, i64s_seti, show ((S : Int) + i).toNat = S + i by omega, Ht.out]
          exact h1
        have hf6 : Fr [] w W4 := by rw [hW4]; exact Hf.out.setCell (.inr (by simp; omega)) _
        have hb6 : W4.heap[w.heap.size]? = some (.cells #[.int .i64 S, .slice (some ⟨g, off, none⟩) ns.length c] 24 (0, 0)) := by
          rw [hW4]; exact (setCell_else _ _ _ (by simp; omega)).trans Hbs.out
        have hn6 : W4.heap[w.heap.size + 1]? = some (.cells #[.int .i64 T, .slice ua ms.length uc] 24 (0, 0)) := by
          rw [hW4]; exact (setCell_else _ _ _ (by simp; omega)).trans Hbt.out
        have Ho6 := Lib.hid ho6
        have Hf6 := Lib.hid hf6
        have Hb6 := Lib.hid hb6
        have Hn6 := Lib.hid hn6
        have Hs4 := Lib.hid hs4
        have Ht1 := Lib.hid ht1
        have hob4 : w.heap.size < W4.heap.size := lt_of_block hb6
        have hob5 : w.heap.size + 1 < W4.heap.size := lt_of_block hn6
        have hol4 : B < W4.heap.size := owns_lt ho6 rfl
        clear hW4 ht1 ho6 hf6 hb6 hn6 hs4 n0 n1 n2 n3 b0 b1 u0 u1 hcz hz
        obtain ⟨xb, hxb⟩ : ∃ xb, xb = wr.heap.size := ⟨_, rfl⟩
        have Hxb := Lib.hid hxb
        rw [← hxb]
        clear hxb
        obtain ⟨⟨ka0, ka1⟩, ⟨kb0, kb1⟩, ⟨kc0, kc1⟩, ⟨kd0, kd1⟩⟩ := Hkids.out
        have ht1l : t1.length = N := by rw [Ht1.out, seti_length, Ht.out]; exact Hrl.out
        obtain ⟨ka, kb, kc, kd⟩ := x
        simp only at ka0 ka1 kb0 kb1 kc0 kc1 kd0 kd1
        obtain ⟨ka, rfl⟩ : ∃ n : Nat, ka = n := ⟨ka.toNat, by omega⟩
        obtain ⟨kb, rfl⟩ : ∃ n : Nat, kb = n := ⟨kb.toNat, by omega⟩
        obtain ⟨kc, rfl⟩ : ∃ n : Nat, kc = n := ⟨kc.toNat, by omega⟩
        obtain ⟨kd, rfl⟩ : ∃ n : Nat, kd = n := ⟨kd.toNat, by omega⟩
        have hka : ka < N := by omega
        have hkb : kb < N := by omega
        have hkc : kc < N := by omega
        have hkd : kd < N := by omega
        have c0 := owns_cell Ho6.out rfl (i64s_get (t := t1) (n := ka) (by omega))
        have c1 := owns_cell Ho6.out rfl (i64s_get (t := t1) (n := kb) (by omega))
        have c2 := owns_cell Ho6.out rfl (i64s_get (t := t1) (n := kc) (by omega))
        have c3 := owns_cell Ho6.out rfl (i64s_get (t := t1) (n := kd) (by omega))
        have hr : ren t ⟨ka, kb, kc, kd⟩ = ⟨geti t1 ka, geti t1 kb, geti t1 kc, geti t1 kd⟩ := by
          have htl : t.length = N := by rw [Ht.out]; exact Hrl.out
          have e : ∀ q : Nat, q < S + i → geti t1 q = geti t q := fun q hq => by rw [Ht1.out, geti_seti (by omega) (by omega) (by omega), if_neg (by omega)]
          rw [e ka (by omega), e kb (by omega), e kc (by omega), e kd (by omega)]
          rfl
        rw [hr] at Hsn
        clear hr
        generalize geti t1 ka = va at *
        generalize geti t1 kb = vb at *
        generalize geti t1 kc = vc at *
        generalize geti t1 kd = vd at *
        have C0 := Lib.hid c0
        have C1 := Lib.hid c1
        have C2 := Lib.hid c2
        have C3 := Lib.hid c3
        clear c0 c1 c2 c3
        go_loopw [13, 14] (fun xo xx wl => ∃ (j : Nat) (bt : Bool), xo = .bool bt ∧ bt = allj ⟨va, vb, vc, vd⟩ j ∧ xx = .int .i64 j ∧ j ≤ 4 ∧ wl.heap[xb]? = some (.cells (rj ⟨ka, kb, kc, kd⟩ ⟨va, vb, vc, vd⟩ j) 57 (0, 0)) ∧ Fr [] W4 wl) (fun _ xx _ => 4 - (intOf xx).toNat)
        case atStart => exact ⟨0, true, rfl, rfl, rfl, by omega, by rw [hp_alloc, if_pos (by rw [Hxb.out, Hs4.out])]; rfl, by (repeat (first | exact Fr.refl _ _ | assumption | apply Fr.drewN | apply Fr.drew | apply Fr.alloc | refine Fr.setCell ?_ (Or.inr (by simp; try omega)) _))⟩
        case round =>
          obtain ⟨j, bt, rfl, hbt, rfl, hj, hbx, hfx⟩ := hrel
          have Hall := Lib.hid hbt
          clear hbt
          have e0 := (hfx.cell (p := ⟨B, ka, none⟩) hol4 (by simp)).trans C0.out
          have e1 := (hfx.cell (p := ⟨B, kb, none⟩) hol4 (by simp)).trans C1.out
          have e2 := (hfx.cell (p := ⟨B, kc, none⟩) hol4 (by simp)).trans C2.out
          have e3 := (hfx.cell (p := ⟨B, kd, none⟩) hol4 (by simp)).trans C3.out
          have hol5 : B < wr.heap.size := by have := hfx.size; omega
          have hxl := lt_of_block hbx
          have Hfx := Lib.hid hfx
          have hxB : xb ≠ B := by have := Hxb.out; have := Hs4.out; omega
          clear hfx
          have hj5 : j = 0 ∨ j = 1 ∨ j = 2 ∨ j = 3 ∨ j = 4 := by omega
          rcases hj5 with rfl | rfl | rfl | rfl | rfl
          all_goals
            simp only [rj] at hbx
            have d0 := heap_eq_cell hbx 0
            have d1 := heap_eq_cell hbx 1
            have d2 := heap_eq_cell hbx 2
            have d3 := heap_eq_cell hbx 3
            have y0 := heap_eq_frozen hbx 0
            have y1 := heap_eq_frozen hbx 1
            have y2 := heap_eq_frozen hbx 2
            have y3 := heap_eq_frozen hbx 3
            have Hbx := Lib.hid hbx
            clear hbx
          rotate_right
          · have hf7 : Fr [] w wr := Hf6.out.trans0 Hfx.out
            have ho7 := owns_of_block Ho6.out fun y hy => Hfx.out.block y (owns_lt Ho6.out hy) (by simp)
            have hb7 := (Hfx.out.block _ hob4 (by simp)).trans Hb6.out
            have hn7 := (Hfx.out.block _ hob5 (by simp)).trans Hn6.out
            have u0 := heap_eq_cell hn7 0
            have u1 := heap_eq_cell hn7 1
            have hun := lt_of_block hn7
            have hz := owns_frozen ho7 rfl (S + i)
            have hcz := owns_cell ho7 rfl (i64s_get (t := t1) (n := S + i) (by omega))
            have hfind := fun w6 (hf6 : Fr [] wr w6) => find_calls (w := w6) (S := T) (ns := ms) (v := .slice ua ms.length uc) ⟨va, vb, vc, vd⟩ (by omega) (by omega) (Hu.out.fr (hf7.trans0 hf6))
            have hfn : findN T ms ⟨va, vb, vc, vd⟩ = match ms.idxOf? ⟨va, vb, vc, vd⟩ with
              | some o => (T : Int) + (o : Nat)
              | none => -1 := rfl
            have hsn := Hsn.out
            rw [← hfn, ← Hall.out] at hsn
            have Hf7 := Lib.hid hf7
            have Ho7 := Lib.hid ho7
            have Hb7 := Lib.hid hb7
            have Hn7 := Lib.hid hn7
            clear hf7 ho7 hb7 hn7 e0 e1 e2 e3 y0 y1 y2 y3 hfn
            generalize findN T ms ⟨va, vb, vc, vd⟩ = fn at *
            have Hsn7 := Lib.hid hsn
            have Hfind := Lib.hid hfind
            clear hsn hfind
            cases bt
            · go_wp2
              go_roundw
              case rel =>
                refine ⟨S + i + 1, by go_num, by omega, ?_, Hf7.out, Hb7.out, Hn7.out⟩
                rw [Hsn7.out, if_neg (by simp), show ((S + i : Nat) : Int) = (S : Int) + i by omega, ← Ht1.out]
                exact Ho7.out
              case measure => simp [intOf]; omega
            · go_wp2_with fail
              refine (Hfind.out _ (by (repeat (first | exact Fr.refl _ _ | assumption | apply Fr.drewN | apply Fr.drew | apply Fr.alloc | refine Fr.setCell ?_ (Or.inr (by simp; try omega)) _)))).mono ?_
              rintro e w6 ⟨rfl, hf6⟩
              have hf6' : Fr [] wr w6 := Fr.trans0 (by (repeat (first | exact Fr.refl _ _ | assumption | apply Fr.drewN | apply Fr.drew | apply Fr.alloc | refine Fr.setCell ?_ (Or.inr (by simp; try omega)) _))) hf6
              have ho8 := owns_of_block Ho7.out fun z hz => hf6'.block z (owns_lt Ho7.out hz) (by simp)
              have hb8 := (hf6'.block _ (lt_of_block Hb7.out) (by simp)).trans Hb7.out
              have hn8 := (hf6'.block _ (lt_of_block Hn7.out) (by simp)).trans Hn7.out
              have hol8 : B < w6.heap.size := owns_lt ho8 rfl
              have hcz := owns_cell ho8 rfl (i64s_get (t := t1) (n := S + i) (by omega))
              have hz := owns_frozen ho8 rfl (S + i)
              have hset := owns_set ho8 rfl (j := S + i) (by rw [ho8.1]; omega) (.int .i64 fn)
              have Hset := Lib.hid hset
              have Hf8 := Lib.hid (Hf7.out.trans0 hf6')
              have Hb8 := Lib.hid hb8
              have Hn8 := Lib.hid hn8
              clear hf6 hf6' ho8 hb8 hn8 hset
              generalize geti t1 ((S + i : Nat) : Int) = g9 at *
              go_wp2
              go_roundw
              case rel =>
                refine ⟨S + i + 1, by go_num, by omega, ?_, Hf8.out.setCell (.inr (by simp; omega)) _, ?_, ?_⟩
                · rw [Hsn7.out, if_pos (by trivial)]
                  have h1 := Hset.out
                  rw [Ht1.out, i64s_seti, show ((S : Int) + i).toNat = S + i by omega, List.set_set] at h1
                  rw [i64s_seti, show ((S + i : Nat) : Int).toNat = S + i by omega]
                  exact h1
                · rw [setCell_else _ _ _ (by simp; omega)]; exact Hb8.out
                · rw [setCell_else _ _ _ (by simp; omega)]; exact Hn8.out
              case measure => simp [intOf]; omega
          all_goals cases bt
          all_goals go_wp2
          all_goals go_roundw
          any_goals (case measure => simp [intOf])
          · exact ⟨1, _, rfl, (by rw [allj, ← Hall.out]; rfl), by go_num, by omega, by rw [heap_setCell_here Hbx.out]; rfl, Hfx.out.setCell (.inr (by have := Hxb.out; have := Hs4.out; simp; omega)) _⟩
          · exact ⟨1, _, rfl, (by rw [allj, ← Hall.out]; rfl), by go_num, by omega, by rw [heap_setCell_here Hbx.out]; rfl, Hfx.out.setCell (.inr (by have := Hxb.out; have := Hs4.out; simp; omega)) _⟩
          · exact ⟨2, _, rfl, (by rw [allj, ← Hall.out]; rfl), by go_num, by omega, by rw [heap_setCell_here Hbx.out]; rfl, Hfx.out.setCell (.inr (by have := Hxb.out; have := Hs4.out; simp; omega)) _⟩
          · exact ⟨2, _, rfl, (by rw [allj, ← Hall.out]; rfl), by go_num, by omega, by rw [heap_setCell_here Hbx.out]; rfl, Hfx.out.setCell (.inr (by have := Hxb.out; have := Hs4.out; simp; omega)) _⟩
          · exact ⟨3, _, rfl, (by rw [allj, ← Hall.out]; rfl), by go_num, by omega, by rw [heap_setCell_here Hbx.out]; rfl, Hfx.out.setCell (.inr (by have := Hxb.out; have := Hs4.out; simp; omega)) _⟩
          · exact ⟨3, _, rfl, (by rw [allj, ← Hall.out]; rfl), by go_num, by omega, by rw [heap_setCell_here Hbx.out]; rfl, Hfx.out.setCell (.inr (by have := Hxb.out; have := Hs4.out; simp; omega)) _⟩
          · exact ⟨4, _, rfl, (by rw [allj, ← Hall.out]; rfl), by go_num, by omega, by rw [heap_setCell_here Hbx.out]; rfl, Hfx.out.setCell (.inr (by have := Hxb.out; have := Hs4.out; simp; omega)) _⟩
          · exact ⟨4, _, rfl, (by rw [allj, ← Hall.out]; rfl), by go_num, by omega, by rw [heap_setCell_here Hbx.out]; rfl, Hfx.out.setCell (.inr (by have := Hxb.out; have := Hs4.out; simp; omega)) _⟩
    · obtain rfl : k = N := by omega
      have hkN : ¬ (k : Int) < (S : Int) + ns.length := by have := HNi.out; omega
      have hcz := owns_cell ho rfl (i64s_get (t := ra S ns T ms k) (n := X) (by omega))
      have hz := owns_frozen ho rfl X
      clear ho hf hbs hbt hrl
      generalize geti (ra S ns T ms k) (X : Int) = q at *
      have hq : decide (Alk S ns X T ms y) = (q == y) := by rw [Bool.eq_iff_iff]; simpa using Halk.out.symm
      have Hq := Lib.hid hq
      clear hq
      go_wp2
      go_ret
      exact ⟨by rw [Hq.out]; rfl, Hf.out⟩
end Go.Proofs.Ytgeomalefpjfdaa
