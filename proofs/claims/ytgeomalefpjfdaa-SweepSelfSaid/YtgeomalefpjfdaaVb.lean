/- The reference of Needed. -/
import Derived.Test.YtgeomalefpjfdaaVa
namespace Go.Proofs.Ytgeomalefpjfdaa
open Go Go.RowKit Go.Proofs.Rg Go.Proofs.Mp Go.Proofs.Hp Go.Proofs.Qs
set_option linter.unusedVariables false
theorem at_setT_mono {m : List Bool} {k j : Int} (h : at' m j = true) : at' (setT m k) j = true := by
  unfold at' setT at *
  rw [List.getD_eq_getElem?_getD] at *
  rw [List.getElem?_set]
  split
  · split
    · rfl
    · rename_i h1 h2
      rw [← h1, List.getElem?_eq_none (by omega)] at h
      simp at h
  · exact h
theorem at_foldl_mono {j : Int} : ∀ (l : List Int) {m : List Bool}, at' m j = true → at' (l.foldl setT m) j = true
  | [], _, h => h
  | _ :: l, _, h => at_foldl_mono l (at_setT_mono h)
theorem foldl_setT_length : ∀ (l : List Int) (m : List Bool), (l.foldl setT m).length = m.length
  | [], _ => rfl
  | x :: l, m => (foldl_setT_length l (setT m x)).trans (setT_length m x)
set_option maxHeartbeats 16000000 in
set_option maxRecDepth 100000 in
theorem RNeeded_calls {w : World} {s : Int} {ns : List K4} {v rv : Value} {roots : List Int} (hg : GoodQ s ns) (hv : Reads w v ns.length 4 (flat ns)) (hr : Reads w rv roots.length 1 (i64s roots)) (hlr : roots.length ≤ 1000000) :
    Calls Try.prog 12 #[.agg #[.int .i64 s, v], rv] w (NeedPost w s ns roots) := by
  obtain ⟨_, a, c, rfl, hav⟩ := hv
  obtain ⟨_, ra, rc, rfl, har⟩ := hr
  have hs1 := hg.1
  have hs2 := hg.2.1
  have hln := hg.2.2.1
  obtain ⟨S, rfl⟩ : ∃ S : Nat, s = S := ⟨s.toNat, by omega⟩
  have Hg := Lib.hid hg
  have Hav := Lib.hid hav
  have Har := Lib.hid har
  obtain ⟨N, hN⟩ : ∃ N : Nat, N = S + ns.length := ⟨_, rfl⟩
  have hNi : (S : Int) + ns.length = N := by omega
  have HN := Lib.hid hN
  have hNb : N ≤ 200000 := by omega
  have HNi := Lib.hid hNi
  clear hg hav har hNi hN
  go_enter Try.func12, Try.ntmps12
  go_wp2_with (refine wpList_make1 rfl (t := 60) (e := 4) (n := N) (z := .bool false) (bytes := 1) rfl (congrArg (Value.int .i64) HNi.out) (congrArg (Value.int .i64) HNi.out) Try.underlying60 info_bool rfl ?e1 ?e2 ?_)
  case e1 => omega
  case e2 => unfold maxLen; omega
  intro w1 ho1 hf1 hsz1
  try rw [hp_alloc_size] at ho1
  have hb1 : w1.heap[w.heap.size]? = some (.cells #[.int .i64 S, .slice a ns.length c] 24 (0, 0)) := (hf1.block _ (by rw [hp_alloc_size]; omega) (by simp)).trans (by (repeat (first | rw [if_pos (by omega)] | rw [if_neg (by omega)] | rw [hp_drew] | rw [hp_drewN] | rw [hp_alloc_size] | rw [hp_setCell_size] | rw [hp_alloc] | rw [hp_setCell] | rw [Option.map_some] | rw [upd_cells] | rw [List.set_cons_zero] | rw [List.set_cons_succ] | rfl)))
  have Ho1 := Lib.hid ho1
  have Hf1 := Lib.hid (((Fr.refl [] w).alloc _).trans0 hf1)
  have Hb1 := Lib.hid hb1
  clear ho1 hf1 hb1
  go_wp2_with fail
  go_loopw [8] (fun x wl => ∃ (k : Nat) (m : List Bool), x = .int .i64 k ∧ k ≤ roots.length ∧ markRoots ((S : Int) + ns.length) (roots.take k) (List.replicate N false) = some m ∧ wl.ownsRow (w.heap.size + 1) 4 1 (.slice (some ⟨w.heap.size + 1, 0, none⟩) N N) N (bos m) ∧ Fr [] w wl ∧
      wl.heap[w.heap.size]? = some (.cells #[.int .i64 S, .slice a ns.length c] 24 (0, 0))) (fun x _ => roots.length - (intOf x).toNat)
  case atStart => exact ⟨0, _, rfl, by omega, rfl, by have := Ho1.out; rwa [show bos (List.replicate N false) = List.replicate N (.bool false) by simp [bos]], Hf1.out, Hb1.out⟩
  case round =>
    obtain ⟨k, m, rfl, hk, hm, ho, hf, hb⟩ := hrel
    have hml : m.length = N := by have := ho.1; simpa [bos] using this
    have b0 := heap_eq_cell hb 0
    have b1 := heap_eq_cell hb 1
    have hbl := lt_of_block hb
    have Hm := Lib.hid hm
    have Ho := Lib.hid ho
    have Hf := Lib.hid hf
    have Hb := Lib.hid hb
    have Hml := Lib.hid hml
    have hgl : w.heap.size + 1 < wr.heap.size := owns_lt ho rfl
    by_cases hlt : k < roots.length
    · obtain ⟨g1, off1, rfl, hg1, hc1⟩ := Har.out (by omega)
      obtain ⟨r, hr⟩ : ∃ r, roots[k]? = some r := ⟨_, List.getElem?_eq_getElem hlt⟩
      have e1 := (hf.cell (p := ⟨g1, off1 + k, none⟩) hg1 (by simp)).trans (hc1 k (.int .i64 r) (by rw [i64s, List.getElem?_map, hr]; rfl))
      have hg1r : g1 < wr.heap.size := by have := hf.size; omega
      have htk : roots.take (k + 1) = roots.take k ++ [r] := by rw [List.take_add_one, hr]; rfl
      have hsn := markRoots_snoc (N := (S : Int) + ns.length) (l := roots.take k) (m := List.replicate N false) (r := r)
      rw [← htk, hm] at hsn
      simp only [Option.bind_some] at hsn
      have hrm : r ∈ roots := List.mem_of_getElem? hr
      have hK : ∀ w2, Calls Try.prog 23 #[.agg #[.int .i64 S, .slice a ns.length c], .int .i64 r] w2 fun e w' => e = .returned (.bool (decide (0 ≤ r ∧ r < (S : Int) + ns.length))) ∧ Fr [] w2 w' := fun w2 => Known_calls (by omega) (by omega)
      by_cases hbad : r < 0 ∨ (N : Int) ≤ r
      · have hNi := HNi.out
        have hnone : marks S ns roots = none := marks_none.2 ⟨r, hrm, fun hk => by have := hk.1; have := hk.2; omega⟩
        have Hnone := Lib.hid hnone
        rw [decide_eq_false (by omega)] at hK
        have HK := Lib.hid hK
        clear hm ho hf hb hml hc1 hr htk hsn hrm hbad hnone hNi hK
        go_wp2
        (refine wp_region_text (by kernel_rfl) (by kernel_rfl) ?_)
        go_wp2_with fail
        refine (HK.out _).mono ?_
        rintro e w2 ⟨rfl, hf2⟩
        have Hf2 := Lib.hid (Hf.out.trans0 (Fr.trans0 (by (repeat (first | exact Fr.refl _ _ | assumption | apply Fr.drewN | apply Fr.drew | apply Fr.alloc | refine Fr.setCell ?_ (Or.inr (by simp; try omega)) _)) : Fr [] wr wr.drew) hf2))
        clear hf2
        go_wp2
        refine Strict.intro rfl ?_
        go_wp2
        go_ret2
        exact ⟨fun _ => ⟨rfl, Hf2.out⟩, fun m h => (by rw [Hnone.out] at h; cases h)⟩
      · have hNi := HNi.out
        rw [if_neg (by omega)] at hsn
        have hr0 : 0 ≤ r ∧ r < N := by omega
        rw [decide_eq_true (by omega)] at hK
        obtain ⟨R, rfl⟩ : ∃ R : Nat, r = R := ⟨r.toNat, by omega⟩
        have hRN : R < N := by omega
        have Hsn := Lib.hid hsn
        have HK := Lib.hid hK
        clear hm ho hf hb hml hr htk hsn hrm hbad hNi hK hr0
        go_wp2
        (refine wp_region_text (by kernel_rfl) (by kernel_rfl) ?_)
        go_wp2_with fail
        refine (HK.out _).mono ?_
        rintro e w2 ⟨rfl, hf2⟩
        have hf2' := Fr.trans0 (by (repeat (first | exact Fr.refl _ _ | assumption | apply Fr.drewN | apply Fr.drew | apply Fr.alloc | refine Fr.setCell ?_ (Or.inr (by simp; try omega)) _)) : Fr [] wr wr.drew) hf2
        have ho2 := owns_of_block Ho.out fun y hy => hf2'.block y (owns_lt Ho.out hy) (by simp)
        have hb2 := (hf2'.block _ hbl (by simp)).trans Hb.out
        have b0 := heap_eq_cell hb2 0
        have b1 := heap_eq_cell hb2 1
        have e1' := (hf2'.cell (p := ⟨g1, off1 + k, none⟩) hg1r (by simp)).trans e1
        have hc := owns_cell ho2 rfl (j := R) (u := .bool (at' m R)) (by
          rw [bos, List.getElem?_map, List.getElem?_eq_getElem (by rw [Hml.out]; omega)]
          unfold at'
          rw [List.getD_eq_getElem?_getD, show ((R : Int)).toNat = R from rfl, List.getElem?_eq_getElem (by rw [Hml.out]; omega)]; rfl)
        have hz := owns_frozen ho2 rfl R
        have hgl2 : w.heap.size + 1 < w2.heap.size := owns_lt ho2 rfl
        have hg2r : g1 < w2.heap.size := by have := hf2'.size; omega
        have hbl2 := lt_of_block hb2
        have Hf2 := Lib.hid (Hf.out.trans0 hf2')
        have Ho2 := Lib.hid ho2
        have Hb2 := Lib.hid hb2
        clear hf2 hf2' ho2 hb2 e1 hc1
        go_wp2
        refine Strict.intro rfl ?_
        go_wp2
        go_roundw
        case rel =>
          refine ⟨k + 1, setT m R, by go_num, by omega, Hsn.out, ?_, Hf2.out.setCell (.inr (by simp)) _, ?_⟩
          · rw [bos_setT]
            exact owns_set Ho2.out rfl (by rw [bos, List.length_map, Hml.out]; exact hRN) _
          · rw [setCell_else _ _ _ (by simp)]; exact Hb2.out
        case measure => simp [intOf]; omega
    · have hNi := HNi.out
      obtain rfl : k = roots.length := by omega
      rw [List.take_length] at hm
      have hM : marks S ns roots = some (markDown S ns ns.length m) := by
        unfold marks
        rw [show ((S : Int) + ns.length).toNat = N by omega, hm]; rfl
      obtain ⟨M, hMM⟩ : ∃ M, M = markDown S ns ns.length m := ⟨_, rfl⟩
      rw [← hMM] at hM
      have HM := Lib.hid hM
      have HMM := Lib.hid hMM.symm
      obtain ⟨wo, rfl⟩ : ∃ wo : World, wo = wr := ⟨_, rfl⟩
      clear hm ho hf hb hml hM hMM hNi
      go_wp2_with fail
      go_loopw [9] (fun x wl => ∃ (i : Nat) (y : Int) (m : List Bool), x = .int .i64 y ∧ y = (S : Int) + i - 1 ∧ i ≤ ns.length ∧ markDown S ns i m = M ∧ wl.ownsRow (w.heap.size + 1) 4 1 (.slice (some ⟨w.heap.size + 1, 0, none⟩) N N) N (bos m) ∧ Fr [] w wl ∧
          wl.heap[w.heap.size]? = some (.cells #[.int .i64 S, .slice a ns.length c] 24 (0, 0))) (fun x _ => (intOf x + 1).toNat)
      case atStart => exact ⟨ns.length, (S : Int) + ns.length - 1, m, rfl, rfl, by omega, HMM.out, Ho.out, Hf.out, Hb.out⟩
      case round =>
        obtain ⟨i, y, m, rfl, hy, hi, hm, ho, hf, hb⟩ := hrel
        have hml : m.length = N := by have := ho.1; simpa [bos] using this
        have b0 := heap_eq_cell hb 0
        have b1 := heap_eq_cell hb 1
        have hbl := lt_of_block hb
        have hgl : w.heap.size + 1 < wr.heap.size := owns_lt ho rfl
        cases i with
        | zero =>
          have hys : y < (S : Int) := by omega
          have hmM : m = M := hm
          have Ho2 := Lib.hid ho
          have Hf2 := Lib.hid hf
          have HmM := Lib.hid hmM
          have Hml2 := Lib.hid hml
          obtain ⟨wz, rfl⟩ : ∃ wz : World, wz = wr := ⟨_, rfl⟩
          clear hm ho hf hb hml hmM hy
          go_wp2_with fail
          clear b0 b1
          go_loopw [11, 12] (fun o x wl => ∃ (k : Nat), x = .int .i64 k ∧ k ≤ N ∧ wl.ownsRow wz.heap.size 3 1 o (nl m k).length (i64s (nl m k)) ∧ Fr [] wz wl) (fun _ x _ => N - (intOf x).toNat)
          case atStart => exact ⟨0, rfl, by omega, World.ownsRow_nil _ _ _ _, Fr.refl _ _⟩
          case round =>
            obtain ⟨k, rfl, hk, ho, hf⟩ := hrel
            obtain ⟨oa, oc, rfl, _, _⟩ := owns_form ho
            have Ho3 := Lib.hid ho
            have Hf3 := Lib.hid hf
            have hsz := hf.size
            have hnl := nl_length m k
            have hnls := nl_succ m k
            by_cases hlt : k < N
            · have hkN : (k : Int) < (S : Int) + ns.length := by have := HNi.out; omega
              have hc := owns_cell Ho2.out rfl (j := k) (u := .bool (at' m k)) (by
                rw [bos, List.getElem?_map, List.getElem?_eq_getElem (by rw [Hml2.out]; exact hlt)]
                unfold at'
                rw [List.getD_eq_getElem?_getD, show ((k : Int)).toNat = k from rfl, List.getElem?_eq_getElem (by rw [Hml2.out]; exact hlt)]; rfl)
              have e1 := (hf.cell (p := ⟨w.heap.size + 1, k, none⟩) hgl (by simp)).trans hc
              have hg1r : w.heap.size + 1 < wr.heap.size := by omega
              clear ho hf hc
              generalize at' m k = bt at *
              cases bt
              · have Hnls := Lib.hid hnls
                clear hnls
                go_wp2
                go_roundw
                case rel => exact ⟨k + 1, by go_num, by omega, by rw [Hnls.out]; exact Ho3.out, Hf3.out⟩
                case measure => simp [intOf]; omega
              · have hsn : i64s (nl m k) ++ [.int .i64 (k : Int)] = i64s (nl m (k + 1)) := by rw [hnls, if_pos rfl, i64s_snoc]
                have Hsn := Lib.hid hsn
                have hll : (nl m (k + 1)).length = (nl m k).length + 1 := by rw [hnls, if_pos rfl, List.length_append]; rfl
                have Hll := Lib.hid hll
                clear hnls hsn hll
                go_wp2_with (at_builtin; refine append_i64 (n := (nl m k).length) (base := wz.heap.size) (xs := i64s (nl m k)) (y := k) rfl rfl rfl ?e1 rfl ?e2 ?e3 ?e4 ?_)
                case e1 => exact owns_of_block Ho3.out fun y hy => heap_alloc_else _ _ _ (owns_lt Ho3.out hy)
                case e2 => (first | (rw [hp_alloc, if_pos rfl]; done) | exact (Array.getElem?_eq_some_iff.1 ((hp_alloc _ _ _).trans (if_pos rfl))).2 | (simp only [hp_drew, hp_drewN]; rw [hp_alloc, if_pos rfl]; done))
                case e3 => omega
                case e4 => (first | omega | (rw [hp_alloc_size]; omega) | (simp only [hp_drew, hp_drewN, hp_alloc_size]; omega) | (simp; omega))
                intro g cap w9 hown1 hW1 hF1 hloc1 hg9
                rw [Hsn.out] at hown1
                have Hown1 := Lib.hid hown1
                have Hf1 := Lib.hid (fr_append Hf3.out Ho3.out hF1)
                clear hown1 hW1 hF1 hloc1
                go_wp2
                go_roundw
                case rel => exact ⟨k + 1, by go_num, by omega, by rw [Hll.out]; exact Hown1.out, Hf1.out⟩
                case measure => simp [intOf]; omega
            · have hkN : ¬ (k : Int) < (S : Int) + ns.length := by have := HNi.out; omega
              obtain rfl : k = N := by omega
              go_wp2
              go_ret2
              have hmN : k = ((S : Int) + ns.length).toNat := by have := HNi.out; omega
              have hM := HM.out
              rw [← HmM.out] at hM
              refine ⟨fun h => (by rw [hM] at h; cases h), fun m' h => ?_⟩
              rw [hM] at h
              cases h
              exact ⟨_, rfl, by rw [← hmN]; exact owns_base Ho3.out Hf2.out.size, Hf2.out.trans0 Hf3.out⟩
        | succ i =>
          obtain rfl : y = ((S + i : Nat) : Int) := by omega
          have hNi := HNi.out
          obtain ⟨k, hk⟩ : ∃ k, ns[i]? = some k := ⟨_, List.getElem?_eq_getElem (by omega)⟩
          have hmo : markOne S ns i m = if at' m ((S : Int) + i) then markK m k else m := by unfold markOne; rw [hk]
          rw [markDown] at hm
          obtain ⟨g1, off1, rfl, hg1, hc1⟩ := Hav.out (by omega)
          obtain ⟨f0, f1, f2, f3⟩ := flat_get hk
          rw [Nat.mul_comm] at f0 f1 f2 f3
          obtain ⟨⟨ka0, ka1⟩, ⟨kb0, kb1⟩, ⟨kc0, kc1⟩, ⟨kd0, kd1⟩⟩ := good_kids Hg.out hk
          have hci := owns_cell ho rfl (j := S + i) (u := .bool (at' m ((S : Int) + i))) (by
            rw [bos, List.getElem?_map, List.getElem?_eq_getElem (by omega)]
            unfold at'
            rw [List.getD_eq_getElem?_getD, show ((S : Int) + i).toNat = S + i by omega, List.getElem?_eq_getElem (by omega)]; rfl)
          obtain ⟨ka, hka⟩ : ∃ n : Nat, k.a = n := ⟨k.a.toNat, by omega⟩
          obtain ⟨kb, hkb⟩ : ∃ n : Nat, k.b = n := ⟨k.b.toNat, by omega⟩
          obtain ⟨kc, hkc⟩ : ∃ n : Nat, k.c = n := ⟨k.c.toNat, by omega⟩
          obtain ⟨kd, hkd⟩ : ∃ n : Nat, k.d = n := ⟨k.d.toNat, by omega⟩
          rw [hka] at f0 ka0 ka1
          rw [hkb] at f1 kb0 kb1
          rw [hkc] at f2 kc0 kc1
          rw [hkd] at f3 kd0 kd1
          have HK := Lib.hid (And.intro hka (And.intro hkb (And.intro hkc hkd)))
          clear hka hkb hkc hkd
          have hka : ka < N := by omega
          have hkb : kb < N := by omega
          have hkc : kc < N := by omega
          have hkd : kd < N := by omega
          have e0 := hc1 _ _ f0
          have e1 := hc1 _ _ f1
          have e2 := hc1 _ _ f2
          have e3 := hc1 _ _ f3
          simp only [← Nat.add_assoc] at e1 e2 e3
          have He := Lib.hid (And.intro e0 (And.intro e1 (And.intro e2 e3)))
          have Ho2 := Lib.hid ho
          have Hf2 := Lib.hid hf
          have Hb2 := Lib.hid hb
          have Hml2 := Lib.hid hml
          have Hmo := Lib.hid hmo
          have Hm2 := Lib.hid hm
          have hSi : S + i < N := by have := HN.out; omega
          clear hm ho hf hb hml hmo hc1 f0 f1 f2 f3 hk hNi e0 e1 e2 e3 hy
          generalize hat : at' m ((S : Int) + i) = bt at *
          have Hat := Lib.hid hat
          clear hat
          cases bt
          · go_wp2_with fail
            obtain ⟨wi, hwi⟩ : ∃ wi : World, wi = wr := ⟨_, rfl⟩
            go_loopw [10] (fun x wl => x = .int .i64 0 ∧ wl = wi) (fun _ _ => 0)
            case atStart => exact ⟨rfl, hwi.symm⟩
            case round =>
              obtain ⟨rfl, hwl⟩ := hrel
              subst hwi
              subst hwl
              go_wp2
              go_roundw
              case rel =>
                refine ⟨i, (S : Int) + i - 1, m, by go_num, rfl, by omega, ?_, Ho2.out, Hf2.out, Hb2.out⟩
                have := Hm2.out
                rw [Hmo.out] at this
                exact this
              case measure => first | (simp [intOf]; done) | (simp [intOf]; omega)
          · go_wp2_with fail
            clear hci b0 b1
            obtain ⟨wi, rfl⟩ : ∃ wi : World, wi = wr := ⟨_, rfl⟩
            go_loopw [10] (fun x wl => ∃ (j : Nat), x = .int .i64 j ∧ j ≤ 4 ∧ wl.ownsRow (w.heap.size + 1) 4 1 (.slice (some ⟨w.heap.size + 1, 0, none⟩) N N) N (bos ((([k.a, k.b, k.c, k.d] : List Int).take j).foldl setT m)) ∧ Fr [] w wl ∧
                wl.heap[w.heap.size]? = some (.cells #[.int .i64 S, .slice (some ⟨g1, off1, none⟩) ns.length c] 24 (0, 0))) (fun x _ => 4 - (intOf x).toNat)
            case atStart => exact ⟨0, rfl, by omega, Ho2.out, Hf2.out, Hb2.out⟩
            case round =>
              obtain ⟨j, rfl, hj, ho, hf, hb⟩ := hrel
              have b0 := heap_eq_cell hb 0
              have b1 := heap_eq_cell hb 1
              have hgl : w.heap.size + 1 < wr.heap.size := owns_lt ho rfl
              have hbl := lt_of_block hb
              have hz := owns_frozen ho rfl
              have hfl : ∀ q : Nat, q < N → ∃ u, wr.cell? ⟨w.heap.size + 1, q, none⟩ = some u := fun q hq => ⟨_, owns_cell ho rfl (j := q) (u := _) (List.getElem?_eq_getElem (by rw [ho.1]; omega))⟩
              have hmj : ((([k.a, k.b, k.c, k.d] : List Int).take j).foldl setT m).length = N := by rw [foldl_setT_length]; exact Hml2.out
              have hci : wr.cell? ⟨w.heap.size + 1, S + i, none⟩ = some (.bool true) := owns_cell ho rfl (j := S + i) (by
                rw [bos, List.getElem?_map, List.getElem?_eq_getElem (by omega)]
                have h1 := at_foldl_mono (([k.a, k.b, k.c, k.d] : List Int).take j) Hat.out
                unfold at' at h1
                rw [List.getD_eq_getElem?_getD, show ((S : Int) + i).toNat = S + i by omega, List.getElem?_eq_getElem (by omega)] at h1
                exact congrArg (fun x => some (Value.bool x)) h1)
              obtain ⟨_, c0⟩ := hfl ka hka
              obtain ⟨_, c1⟩ := hfl kb hkb
              obtain ⟨_, c2⟩ := hfl kc hkc
              obtain ⟨_, c3⟩ := hfl kd hkd
              have z0 := hz ka
              have z1 := hz kb
              have z2 := hz kc
              have z3 := hz kd
              have e0 := (hf.cell (p := ⟨g1, off1 + i * 4, none⟩) hg1 (by simp)).trans He.out.1
              have e1 := (hf.cell (p := ⟨g1, off1 + i * 4 + 1, none⟩) hg1 (by simp)).trans He.out.2.1
              have e2 := (hf.cell (p := ⟨g1, off1 + i * 4 + 2, none⟩) hg1 (by simp)).trans He.out.2.2.1
              have e3 := (hf.cell (p := ⟨g1, off1 + i * 4 + 3, none⟩) hg1 (by simp)).trans He.out.2.2.2
              have hg1r : g1 < wr.heap.size := by have := hf.size; omega
              have Ho := Lib.hid ho
              have Hf := Lib.hid hf
              have Hb := Lib.hid hb
              clear ho hf hb hz hfl hmj
              have hj5 : j = 0 ∨ j = 1 ∨ j = 2 ∨ j = 3 ∨ j = 4 := by omega
              rcases hj5 with rfl | rfl | rfl | rfl | rfl
              all_goals go_wp2
              all_goals first | go_roundw | skip
              any_goals (case measure => first | (simp [intOf]; done) | (simp [intOf]; omega))
              · refine ⟨1, by go_num, by omega, ?_, Hf.out.setCell (.inr (by simp)) _, ?_⟩
                · rw [show (([k.a, k.b, k.c, k.d] : List Int).take 1).foldl setT m = setT ((([k.a, k.b, k.c, k.d] : List Int).take 0).foldl setT m) k.a from rfl, bos_setT, show k.a.toNat = ka by have := HK.out; omega]
                  exact owns_set Ho.out rfl (by rw [Ho.out.1]; omega) _
                · rw [setCell_else _ _ _ (by simp)]; exact Hb.out
              · refine ⟨2, by go_num, by omega, ?_, Hf.out.setCell (.inr (by simp)) _, ?_⟩
                · rw [show (([k.a, k.b, k.c, k.d] : List Int).take 2).foldl setT m = setT ((([k.a, k.b, k.c, k.d] : List Int).take 1).foldl setT m) k.b from rfl, bos_setT, show k.b.toNat = kb by have := HK.out; omega]
                  exact owns_set Ho.out rfl (by rw [Ho.out.1]; omega) _
                · rw [setCell_else _ _ _ (by simp)]; exact Hb.out
              · refine ⟨3, by go_num, by omega, ?_, Hf.out.setCell (.inr (by simp)) _, ?_⟩
                · rw [show (([k.a, k.b, k.c, k.d] : List Int).take 3).foldl setT m = setT ((([k.a, k.b, k.c, k.d] : List Int).take 2).foldl setT m) k.c from rfl, bos_setT, show k.c.toNat = kc by have := HK.out; omega]
                  exact owns_set Ho.out rfl (by rw [Ho.out.1]; omega) _
                · rw [setCell_else _ _ _ (by simp)]; exact Hb.out
              · refine ⟨4, by go_num, by omega, ?_, Hf.out.setCell (.inr (by simp)) _, ?_⟩
                · rw [show (([k.a, k.b, k.c, k.d] : List Int).take 4).foldl setT m = setT ((([k.a, k.b, k.c, k.d] : List Int).take 3).foldl setT m) k.d from rfl, bos_setT, show k.d.toNat = kd by have := HK.out; omega]
                  exact owns_set Ho.out rfl (by rw [Ho.out.1]; omega) _
                · rw [setCell_else _ _ _ (by simp)]; exact Hb.out
              · refine ⟨i, (S : Int) + i - 1, markK m k, by go_num, rfl, by omega, ?_, Ho.out, Hf.out, Hb.out⟩
                have := Hm2.out
                rw [Hmo.out] at this
                exact this
end Go.Proofs.Ytgeomalefpjfdaa
