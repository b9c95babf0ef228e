/- marked of package sweep. -/
import Derived.Test.YtgeomalefpjfdaaQl
import Derived.Test.YtgeomalefpjfdaaRf
import Derived.Test.YtgeomalefpjfdaaMk
import Derived.Test.YtgeomalefpjfdaaSp
import Derived.Test.YtgeomalefpjfdaaZs
import Derived.LoopN
import Derived.WalkMore
namespace Go.Proofs.Ytgeomalefpjfdaa
open Go Go.RowKit Go.Proofs.Rg Go.Proofs.Mp Go.Proofs.Hp Go.Proofs.Qs
def bos (l : List Bool) : List Value := l.map Value.bool
def i64s (l : List Int) : List Value := l.map fun n => Value.int .i64 n
theorem info_bool : (Try.prog.info? 4).map (fun i => (i.zero, i.size, i.bytes)) = some (some (.bool false), 1, 1) := by kernel_rfl
theorem bos_setT {m : List Bool} {k : Int} : bos (setT m k) = (bos m).set k.toNat (.bool true) := by unfold bos setT; rw [List.map_set]
theorem markRoots_snoc {N : Int} : ∀ {l : List Int} {m : List Bool} {r : Int}, markRoots N (l ++ [r]) m = (markRoots N l m).bind fun m' => if r < 0 ∨ N ≤ r then none else some (setT m' r)
  | [], m, r => by rfl
  | x :: l, m, r => by
    rw [List.cons_append, markRoots, markRoots]
    split
    · rfl
    · exact markRoots_snoc
def MarkPost (w : World) (s : Int) (ns : List K4) (roots : List Int) (e : Ending) (w' : World) : Prop :=
  (marks s ns roots = none → e = .returned (.tuple #[.slice none 0 0, .int .i64 13]) ∧ Fr [] w w') ∧
  ∀ m, marks s ns roots = some m → ∃ mv, e = .returned (.tuple #[mv, .int .i64 0]) ∧ w'.ownsRow w.heap.size 4 1 mv m.length (bos m) ∧ Fr [] w w'
set_option maxHeartbeats 16000000 in
set_option maxRecDepth 100000 in
theorem marked_calls {w : World} {s : Int} {ns : List K4} {v rv : Value} {roots : List Int} (hg : GoodQ s ns) (hv : Reads w v ns.length 4 (flat ns)) (hr : Reads w rv roots.length 1 (i64s roots)) (hlr : roots.length ≤ 1000000) :
    Calls Try.prog 28 #[.agg #[.int .i64 s, v], rv] w (MarkPost w s ns roots) := by
  obtain ⟨_, a, c, rfl, hav⟩ := hv
  obtain ⟨_, ra, rc, rfl, har⟩ := hr
  have hs1 := hg.1
  have hs2 := hg.2.1
  have hln := hg.2.2.1
  obtain ⟨S, rfl⟩ : ∃ S : Nat, s = S := ⟨s.toNat, by omega⟩
  have Hg := Lib.hid hg
  have Hav := Lib.hid hav
  have Har := Lib.hid har
  obtain ⟨N, hN⟩ : ∃ N : Nat, N = S + ns.length := ⟨_, rfl⟩
  have hNi : (S : Int) + ns.length = N := by omega
  have HN := Lib.hid hN
  have hNb : N ≤ 200000 := by omega
  have HNi := Lib.hid hNi
  clear hg hav har hNi hN
  go_enter Try.func28, Try.ntmps28
  go_wp2_with fail
  go_step3
  go_wp2_with (refine wpList_make1 rfl (t := 60) (e := 4) (n := N) (z := .bool false) (bytes := 1) rfl (congrArg (Value.int .i64) HNi.out) (congrArg (Value.int .i64) HNi.out) Try.underlying60 info_bool rfl ?e1 ?e2 ?_)
  case e1 => omega
  case e2 => unfold maxLen; omega
  intro w1 ho1 hf1 hsz1
  try rw [hp_alloc_size] at ho1
  have hb1 : w1.heap[w.heap.size]? = some (.cells #[.int .i64 S, .slice a ns.length c] 24 (0, 0)) := (hf1.block _ (by rw [hp_alloc_size]; omega) (by simp)).trans (by (repeat (first | rw [if_pos (by omega)] | rw [if_neg (by omega)] | rw [hp_drew] | rw [hp_drewN] | rw [hp_alloc_size] | rw [hp_setCell_size] | rw [hp_alloc] | rw [hp_setCell] | rw [Option.map_some] | rw [upd_cells] | rw [List.set_cons_zero] | rw [List.set_cons_succ] | rfl)))
  have Ho1 := Lib.hid ho1
  have Hf1 := Lib.hid (((Fr.refl [] w).alloc _).trans0 hf1)
  have Hb1 := Lib.hid hb1
  clear ho1 hf1 hb1
  go_wp2_with fail
  go_loopw [21] (fun x wl => ∃ (k : Nat) (m : List Bool), x = .int .i64 k ∧ k ≤ roots.length ∧ markRoots ((S : Int) + ns.length) (roots.take k) (List.replicate N false) = some m ∧ wl.ownsRow (w.heap.size + 1) 4 1 (.slice (some ⟨w.heap.size + 1, 0, none⟩) N N) N (bos m) ∧ Fr [] w wl ∧
      wl.heap[w.heap.size]? = some (.cells #[.int .i64 S, .slice a ns.length c] 24 (0, 0))) (fun x _ => roots.length - (intOf x).toNat)
  case atStart => exact ⟨0, _, rfl, by omega, rfl, by have := Ho1.out; rwa [show bos (List.replicate N false) = List.replicate N (.bool false) by simp [bos]], Hf1.out, Hb1.out⟩
  case round =>
    obtain ⟨k, m, rfl, hk, hm, ho, hf, hb⟩ := hrel
    have hml : m.length = N := by have := ho.1; simpa [bos] using this
    have b0 := heap_eq_cell hb 0
    have b1 := heap_eq_cell hb 1
    have hbl := lt_of_block hb
    have Hm := Lib.hid hm
    have Ho := Lib.hid ho
    have Hf := Lib.hid hf
    have Hb := Lib.hid hb
    have Hml := Lib.hid hml
    have hgl : w.heap.size + 1 < wr.heap.size := owns_lt ho rfl
    by_cases hlt : k < roots.length
    · obtain ⟨g1, off1, rfl, hg1, hc1⟩ := Har.out (by omega)
      obtain ⟨r, hr⟩ : ∃ r, roots[k]? = some r := ⟨_, List.getElem?_eq_getElem hlt⟩
      have e1 := (hf.cell (p := ⟨g1, off1 + k, none⟩) hg1 (by simp)).trans (hc1 k (.int .i64 r) (by rw [i64s, List.getElem?_map, hr]; rfl))
      have hg1r : g1 < wr.heap.size := by have := hf.size; omega
      have htk : roots.take (k + 1) = roots.take k ++ [r] := by rw [List.take_add_one, hr]; rfl
      have hsn := markRoots_snoc (N := (S : Int) + ns.length) (l := roots.take k) (m := List.replicate N false) (r := r)
      rw [← htk, hm] at hsn
      simp only [Option.bind_some] at hsn
      have hrm : r ∈ roots := List.mem_of_getElem? hr
      by_cases hbad : r < 0 ∨ (N : Int) ≤ r
      · have hNi := HNi.out
        have hnone : marks S ns roots = none := marks_none.2 ⟨r, hrm, fun hk => by have := hk.1; have := hk.2; omega⟩
        have Hnone := Lib.hid hnone
        have hd : decide (r < 0) = true ∨ decide (r < 0) = false ∧ decide ((N : Int) ≤ r) = true := by
          by_cases h : r < 0
          · left; simpa using h
          · right; exact ⟨by simpa using h, by simp; omega⟩
        clear hm ho hf hb hml hc1 hr htk hsn hrm hbad hnone hNi
        rcases hd with hd | ⟨hd, hd2⟩
        all_goals
          go_wp2
          go_ret2
          exact ⟨fun _ => ⟨rfl, Hf.out⟩, fun m h => by rw [Hnone.out] at h; cases h⟩
      · have hNi := HNi.out
        rw [if_neg (by omega)] at hsn
        have hr0 : 0 ≤ r ∧ r < N := by omega
        have hc := owns_cell ho rfl (j := r.toNat) (u := .bool (at' m r)) (by
          rw [bos, List.getElem?_map, List.getElem?_eq_getElem (by omega)]
          unfold at'
          rw [List.getD_eq_getElem?_getD, List.getElem?_eq_getElem (by omega)]; rfl)
        have hz := owns_frozen ho rfl r.toNat
        have Hsn := Lib.hid hsn
        have hrt : r.toNat < N := by omega
        clear hm ho hf hb hml hc1 hr htk hsn hrm hbad hNi
        go_wp2
        go_roundw
        case rel =>
          refine ⟨k + 1, setT m r, by go_num, by omega, Hsn.out, ?_, Hf.out.setCell (.inr (by simp)) _, ?_⟩
          · rw [bos_setT]
            exact owns_set Ho.out rfl (by rw [bos, List.length_map, Hml.out]; exact hrt) _
          · rw [setCell_else _ _ _ (by simp)]; exact Hb.out
        case measure => simp [intOf]; omega
    · have hNi := HNi.out
      obtain rfl : k = roots.length := by omega
      rw [List.take_length] at hm
      have hM : marks S ns roots = some (markDown S ns ns.length m) := by
        unfold marks
        rw [show ((S : Int) + ns.length).toNat = N by omega, hm]; rfl
      obtain ⟨M, hMM⟩ : ∃ M, M = markDown S ns ns.length m := ⟨_, rfl⟩
      rw [← hMM] at hM
      have HM := Lib.hid hM
      have HMM := Lib.hid hMM.symm
      obtain ⟨wo, rfl⟩ : ∃ wo : World, wo = wr := ⟨_, rfl⟩
      clear hm ho hf hb hml hM hMM hNi
      go_wp2_with fail
      go_step3
      go_wp2_with fail
      go_loopw [9] (fun x wl => ∃ (i : Nat) (m : List Bool), x = .int .i64 ((i : Int) - 1) ∧ i ≤ ns.length ∧ markDown S ns i m = M ∧ wl.ownsRow (w.heap.size + 1) 4 1 (.slice (some ⟨w.heap.size + 1, 0, none⟩) N N) N (bos m) ∧ Fr [] w wl ∧
          wl.heap[w.heap.size]? = some (.cells #[.int .i64 S, .slice a ns.length c] 24 (0, 0))) (fun x _ => (intOf x + 1).toNat)
      case atStart => exact ⟨ns.length, m, rfl, by omega, HMM.out, Ho.out, Hf.out, Hb.out⟩
      case round =>
        obtain ⟨i, m, rfl, hi, hm, ho, hf, hb⟩ := hrel
        have hml : m.length = N := by have := ho.1; simpa [bos] using this
        have b0 := heap_eq_cell hb 0
        have b1 := heap_eq_cell hb 1
        have hbl := lt_of_block hb
        have hgl : w.heap.size + 1 < wr.heap.size := owns_lt ho rfl
        cases i with
        | zero =>
          have hmM : m = M := hm
          have Ho2 := Lib.hid ho
          have Hf2 := Lib.hid hf
          have HmM := Lib.hid hmM
          have Hml2 := Lib.hid hml
          clear hm ho hf hb hml hmM
          go_wp2
          go_ret2
          refine ⟨fun h => (by rw [HM.out] at h; cases h), fun m' h => ?_⟩
          rw [HM.out] at h
          cases h
          have h2 := Ho2.out
          rw [HmM.out] at h2
          have hl := Hml2.out
          rw [HmM.out] at hl
          exact ⟨_, rfl, by rw [hl]; exact owns_base h2 (by omega), Hf2.out⟩
        | succ i =>
          have hNi := HNi.out
          obtain ⟨k, hk⟩ : ∃ k, ns[i]? = some k := ⟨_, List.getElem?_eq_getElem (by omega)⟩
          have hmo : markOne S ns i m = if at' m ((S : Int) + i) then markK m k else m := by unfold markOne; rw [hk]
          rw [markDown] at hm
          obtain ⟨g1, off1, rfl, hg1, hc1⟩ := Hav.out (by omega)
          obtain ⟨f0, f1, f2, f3⟩ := flat_get hk
          rw [Nat.mul_comm] at f0 f1 f2 f3
          have hgw : ∀ j, wr.cell? ⟨g1, off1 + j, none⟩ = w.cell? ⟨g1, off1 + j, none⟩ := fun j => hf.cell (p := ⟨g1, off1 + j, none⟩) hg1 (by simp)
          have e0 := (hgw _).trans (hc1 _ _ f0)
          have e1 := (hgw _).trans (hc1 _ _ f1)
          have e2 := (hgw _).trans (hc1 _ _ f2)
          have e3 := (hgw _).trans (hc1 _ _ f3)
          simp only [← Nat.add_assoc] at e1 e2 e3
          have hg1r : g1 < wr.heap.size := by have := hf.size; omega
          obtain ⟨⟨ka0, ka1⟩, ⟨kb0, kb1⟩, ⟨kc0, kc1⟩, ⟨kd0, kd1⟩⟩ := good_kids Hg.out hk
          have hci := owns_cell ho rfl (j := S + i) (u := .bool (at' m ((S : Int) + i))) (by
            rw [bos, List.getElem?_map, List.getElem?_eq_getElem (by omega)]
            unfold at'
            rw [List.getD_eq_getElem?_getD, show ((S : Int) + i).toNat = S + i by omega, List.getElem?_eq_getElem (by omega)]; rfl)
          have Ho2 := Lib.hid ho
          have Hf2 := Lib.hid hf
          have Hb2 := Lib.hid hb
          have Hml2 := Lib.hid hml
          have Hmo := Lib.hid hmo
          have Hm2 := Lib.hid hm
          have hSi : S + i < N := by have := HN.out; omega
          clear hm ho hf hb hml hmo hgw hc1 f0 f1 f2 f3 hk hNi
          generalize hat : at' m ((S : Int) + i) = bt at *
          clear hat
          cases bt
          · go_wp2
            go_roundw
            case rel =>
              refine ⟨i, m, by go_num, by omega, ?_, Ho2.out, Hf2.out, Hb2.out⟩
              have := Hm2.out
              rw [Hmo.out] at this
              exact this
            case measure => simp [intOf]
          · have ⟨ka, hka⟩ : ∃ n : Nat, k.a = n := ⟨k.a.toNat, by omega⟩
            have ⟨kb, hkb⟩ : ∃ n : Nat, k.b = n := ⟨k.b.toNat, by omega⟩
            have ⟨kc, hkc⟩ : ∃ n : Nat, k.c = n := ⟨k.c.toNat, by omega⟩
            have ⟨kd, hkd⟩ : ∃ n : Nat, k.d = n := ⟨k.d.toNat, by omega⟩
            rw [hka] at e0 ka0 ka1
            rw [hkb] at e1 kb0 kb1
            rw [hkc] at e2 kc0 kc1
            rw [hkd] at e3 kd0 kd1
            have HK := Lib.hid (And.intro hka (And.intro hkb (And.intro hkc hkd)))
            clear hka hkb hkc hkd
            have hNi := HNi.out
            have hka : ka < N := by omega
            have hkb : kb < N := by omega
            have hkc : kc < N := by omega
            have hkd : kd < N := by omega
            clear hNi
            go_wp2_with fail
            clear e0 e1 e2 e3 hci b0 b1
            obtain ⟨wi, rfl⟩ : ∃ wi : World, wi = wr := ⟨_, rfl⟩
            go_loopw [59] (fun x wl => ∃ (j : Nat), x = .int .i64 j ∧ j ≤ 4 ∧ wl.ownsRow (w.heap.size + 1) 4 1 (.slice (some ⟨w.heap.size + 1, 0, none⟩) N N) N (bos ((([k.a, k.b, k.c, k.d] : List Int).take j).foldl setT m)) ∧ Fr [] w wl ∧
                wl.heap[w.heap.size]? = some (.cells #[.int .i64 S, .slice (some ⟨g1, off1, none⟩) ns.length c] 24 (0, 0))) (fun x _ => 4 - (intOf x).toNat)
            case atStart => exact ⟨0, rfl, by omega, Ho2.out, Hf2.out, Hb2.out⟩
            case round =>
              obtain ⟨j, rfl, hj, ho, hf, hb⟩ := hrel
              have b0 := heap_eq_cell hb 0
              have b1 := heap_eq_cell hb 1
              have hgl : w.heap.size + 1 < wr.heap.size := owns_lt ho rfl
              have hbl := lt_of_block hb
              have hz := owns_frozen ho rfl
              have hfl : ∀ q : Nat, q < N → ∃ u, wr.cell? ⟨w.heap.size + 1, q, none⟩ = some u := fun q hq => ⟨_, owns_cell ho rfl (j := q) (u := _) (List.getElem?_eq_getElem (by rw [ho.1]; omega))⟩
              obtain ⟨_, c0⟩ := hfl ka hka
              obtain ⟨_, c1⟩ := hfl kb hkb
              obtain ⟨_, c2⟩ := hfl kc hkc
              obtain ⟨_, c3⟩ := hfl kd hkd
              have z0 := hz ka
              have z1 := hz kb
              have z2 := hz kc
              have z3 := hz kd
              have Ho := Lib.hid ho
              have Hf := Lib.hid hf
              have Hb := Lib.hid hb
              clear ho hf hb hz hfl
              have hj5 : j = 0 ∨ j = 1 ∨ j = 2 ∨ j = 3 ∨ j = 4 := by omega
              rcases hj5 with rfl | rfl | rfl | rfl | rfl
              all_goals go_wp2
              all_goals first | go_roundw | skip
              any_goals (case measure => simp [intOf])
              · refine ⟨1, by go_num, by omega, ?_, Hf.out.setCell (.inr (by simp)) _, ?_⟩
                · rw [show (([k.a, k.b, k.c, k.d] : List Int).take 1).foldl setT m = setT ((([k.a, k.b, k.c, k.d] : List Int).take 0).foldl setT m) k.a from rfl, bos_setT, show k.a.toNat = ka by have := HK.out; omega]
                  exact owns_set Ho.out rfl (by rw [Ho.out.1]; omega) _
                · rw [setCell_else _ _ _ (by simp)]; exact Hb.out
              · refine ⟨2, by go_num, by omega, ?_, Hf.out.setCell (.inr (by simp)) _, ?_⟩
                · rw [show (([k.a, k.b, k.c, k.d] : List Int).take 2).foldl setT m = setT ((([k.a, k.b, k.c, k.d] : List Int).take 1).foldl setT m) k.b from rfl, bos_setT, show k.b.toNat = kb by have := HK.out; omega]
                  exact owns_set Ho.out rfl (by rw [Ho.out.1]; omega) _
                · rw [setCell_else _ _ _ (by simp)]; exact Hb.out
              · refine ⟨3, by go_num, by omega, ?_, Hf.out.setCell (.inr (by simp)) _, ?_⟩
                · rw [show (([k.a, k.b, k.c, k.d] : List Int).take 3).foldl setT m = setT ((([k.a, k.b, k.c, k.d] : List Int).take 2).foldl setT m) k.c from rfl, bos_setT, show k.c.toNat = kc by have := HK.out; omega]
                  exact owns_set Ho.out rfl (by rw [Ho.out.1]; omega) _
                · rw [setCell_else _ _ _ (by simp)]; exact Hb.out
              · refine ⟨4, by go_num, by omega, ?_, Hf.out.setCell (.inr (by simp)) _, ?_⟩
                · rw [show (([k.a, k.b, k.c, k.d] : List Int).take 4).foldl setT m = setT ((([k.a, k.b, k.c, k.d] : List Int).take 3).foldl setT m) k.d from rfl, bos_setT, show k.d.toNat = kd by have := HK.out; omega]
                  exact owns_set Ho.out rfl (by rw [Ho.out.1]; omega) _
                · rw [setCell_else _ _ _ (by simp)]; exact Hb.out
              · refine ⟨i, markK m k, by go_num, by omega, ?_, Ho.out, Hf.out, Hb.out⟩
                have := Hm2.out
                rw [Hmo.out] at this
                exact this
end Go.Proofs.Ytgeomalefpjfdaa
