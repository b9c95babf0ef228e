/- Big integers: Mul. -/
import Derived.Test.YtbacamboknmppaaDoorJd
namespace Go.Proofs.YtbacamboknmppaaDoor
open Go Go.RowKit Go.Proofs.Rg Go.Proofs.Hp Go.Proofs.Bn
set_option linter.unusedVariables false
set_option linter.unusedSimpArgs false
def mulS (na : Bool) (da : List Nat) (nb : Bool) (db : List Nat) : Bool × List Nat × Int :=
  if (RightB na da && RightB nb db) = false then (false, [], 2) else mkN (na != nb) (val 4294967296 da * val 4294967296 db)
theorem mul_st {B vm vm' c x y o s P R : Nat} (h : vm + P * c = R) (hs : s = x * y + o + c) (hv : vm' + P * o = vm + P * (s % B)) : vm' + P * B * (s / B) = R + P * (x * y) := by
  have h1 : P * s = P * (s % B) + P * B * (s / B) := by
    rw [Nat.mul_assoc, ← Nat.mul_add, Nat.mod_add_div]
  have h2 : P * s = P * (x * y) + P * o + P * c := by rw [hs, Nat.mul_add, Nat.mul_add]
  generalize P * (s % B) = u1 at *
  generalize P * B * (s / B) = u2 at *
  generalize P * (x * y) = u3 at *
  generalize P * o = u4 at *
  generalize P * c = u5 at *
  omega
theorem getD_set_ne {l : List Nat} {i j d : Nat} (h : j ≠ i) : (l.set i d).getD j 0 = l.getD j 0 := by
  simp only [List.getD_eq_getElem?_getD]
  rw [List.getElem?_set_ne (fun e => h e.symm)]
theorem mul_lt {x y o c : Nat} (hx : x < 4294967296) (hy : y < 4294967296) (ho : o < 4294967296) (hc : c < 4294967296) : x * y < 18446744073709551616 ∧ x * y + o < 18446744073709551616 ∧ x * y + o + c < 18446744073709551616 := by
  have := Nat.mul_le_mul (show x ≤ 4294967295 by omega) (show y ≤ 4294967295 by omega)
  generalize x * y = p at *
  omega
set_option maxHeartbeats 8000000 in
set_option maxRecDepth 100000 in
theorem Mul_calls {w : World} {na nb : Bool} {da db : List Nat} {va vb : Value} (ha : Reads w va da.length 1 (u32s da)) (hb : Reads w vb db.length 1 (u32s db)) (hDa : Dig 4294967296 da) (hDb : Dig 4294967296 db) (hla : da.length ≤ 10000) (hlb : db.length ≤ 10000) :
    Calls Tryd.prog 19 #[.agg #[.bool na, va], .agg #[.bool nb, vb]] w (BigPost w (w.heap.size ≤ ·) (mulS na da nb db)) := by
  have hra := fun w1 (hf : Fr [] w w1) => Right_calls (neg := na) (ha.fr hf) (by omega)
  have hrb := fun w1 (hf : Fr [] w w1) => Right_calls (neg := nb) (hb.fr hf) (by omega)
  have Ha := Lib.hid ha
  have Hb := Lib.hid hb
  obtain ⟨_, a, ac, rfl, _⟩ := ha
  obtain ⟨_, b, bc, rfl, _⟩ := hb
  have Hra := Lib.hid hra
  have Hrb := Lib.hid hrb
  have HDa := Lib.hid hDa
  have HDb := Lib.hid hDb
  obtain ⟨r, hS⟩ : ∃ r, r = mulS na da nb db := ⟨_, rfl⟩
  rw [← hS]
  unfold mulS at hS
  clear hDa hDb hra hrb
  cases hR1 : RightB na da with
  | false =>
    rw [hR1] at hS
    simp only [Bool.false_and, if_true] at hS
    subst hS
    have Hra' := Lib.hid (fun w1 hf => hR1 ▸ Hra.out w1 hf)
    clear hR1
    go_enter Tryd.func19, Tryd.ntmps19
    go_wp2_with fail
    refine (Hra'.out _ (by (repeat (first | exact Fr.refl _ _ | assumption | apply Fr.drewN | apply Fr.drew | apply Fr.alloc | refine Fr.setCell ?_ (Or.inr (by simp; try omega)) _)))).mono ?_
    rintro e w1 ⟨rfl, hf⟩
    have hc := (hf.block (w.heap.size + 1 + 1) (by simp) (by simp)).trans (show _ = some (.cells #[.bool false, .slice none 0 0] 24 (0, 0)) by (repeat (first | rw [if_pos (by omega)] | rw [if_neg (by omega)] | rw [hp_drew] | rw [hp_drewN] | rw [hp_alloc_size] | rw [hp_setCell_size] | rw [hp_alloc] | rw [hp_setCell] | rw [Option.map_some] | rw [upd_cells] | rw [List.set_cons_zero] | rw [List.set_cons_succ] | rfl)))
    have c0 := heap_eq_cell hc 0
    have c1 := heap_eq_cell hc 1
    have z0 := heap_eq_frozen hc 0
    have z1 := heap_eq_frozen hc 1
    have cl := lt_of_block hc
    have Hc := Lib.hid hc
    have Hf := Lib.hid (Fr.trans0 (by (repeat (first | exact Fr.refl _ _ | assumption | apply Fr.drewN | apply Fr.drew | apply Fr.alloc | refine Fr.setCell ?_ (Or.inr (by simp; try omega)) _)) : Fr [] w _) hf)
    clear hf hc
    go_wp2
    (try simp only [Exit.inBlock, Exit.then])
    refine bodyPost_ret (big_result rfl (b := w.heap.size + 1 + 1) (x := .bool false) (y := .slice none 0 0) rfl ?_ rfl) rfl ⟨_, _, ⟨Nat.le_refl _, fun g hg => (by cases hg)⟩, rfl, reads_nil _, ?_⟩
    · have h := Hc.out
      (repeat (first | rw [if_pos (by omega)] | rw [if_neg (by omega)] | rw [hp_drew] | rw [hp_drewN] | rw [hp_alloc_size] | rw [hp_setCell_size] | rw [hp_alloc] | rw [hp_setCell] | rw [Option.map_some] | rw [upd_cells] | rw [List.set_cons_zero] | rw [List.set_cons_succ] | rfl))
      rw [h]
      (repeat (first | rw [if_pos (by omega)] | rw [if_neg (by omega)] | rw [hp_drew] | rw [hp_drewN] | rw [hp_alloc_size] | rw [hp_setCell_size] | rw [hp_alloc] | rw [hp_setCell] | rw [Option.map_some] | rw [upd_cells] | rw [List.set_cons_zero] | rw [List.set_cons_succ] | rfl))
    · exact (Hf.out.setCell (.inr (by simp; try omega)) _).setCell (.inr (by simp; try omega)) _
  | true =>
    have Hra' := Lib.hid (fun w1 hf => hR1 ▸ Hra.out w1 hf)
    obtain ⟨cA, lA, _⟩ := right_canon hR1
    have HcA := Lib.hid cA
    rw [hR1] at hS
    clear hR1 cA Hra
    cases hR2 : RightB nb db with
    | false =>
      rw [hR2] at hS
      simp only [Bool.and_false, if_true] at hS
      subst hS
      have Hrb' := Lib.hid (fun w1 hf => hR2 ▸ Hrb.out w1 hf)
      clear hR2
      go_enter Tryd.func19, Tryd.ntmps19
      go_wp2_with fail
      refine (Hra'.out _ (by (repeat (first | exact Fr.refl _ _ | assumption | apply Fr.drewN | apply Fr.drew | apply Fr.alloc | refine Fr.setCell ?_ (Or.inr (by simp; try omega)) _)))).mono ?_
      rintro e w1 ⟨rfl, hf⟩
      have hb := (hf.block (w.heap.size + 1) (by simp) (by simp)).trans (show _ = some (.cells #[.bool nb, .slice b db.length bc] 24 (0, 0)) by (repeat (first | rw [if_pos (by omega)] | rw [if_neg (by omega)] | rw [hp_drew] | rw [hp_drewN] | rw [hp_alloc_size] | rw [hp_setCell_size] | rw [hp_alloc] | rw [hp_setCell] | rw [Option.map_some] | rw [upd_cells] | rw [List.set_cons_zero] | rw [List.set_cons_succ] | rfl)))
      have b0 := heap_eq_cell hb 0
      have b1 := heap_eq_cell hb 1
      have bl := lt_of_block hb
      have Hc1 := Lib.hid ((hf.block (w.heap.size + 1 + 1) (by simp) (by simp)).trans (show _ = some (.cells #[.bool false, .slice none 0 0] 24 (0, 0)) by (repeat (first | rw [if_pos (by omega)] | rw [if_neg (by omega)] | rw [hp_drew] | rw [hp_drewN] | rw [hp_alloc_size] | rw [hp_setCell_size] | rw [hp_alloc] | rw [hp_setCell] | rw [Option.map_some] | rw [upd_cells] | rw [List.set_cons_zero] | rw [List.set_cons_succ] | rfl))))
      have Hf1 := Lib.hid (Fr.trans0 (by (repeat (first | exact Fr.refl _ _ | assumption | apply Fr.drewN | apply Fr.drew | apply Fr.alloc | refine Fr.setCell ?_ (Or.inr (by simp; try omega)) _)) : Fr [] w _) hf)
      clear hf hb
      go_wp2_with fail
      refine (Hrb'.out _ Hf1.out).mono ?_
      rintro e w2 ⟨rfl, hf⟩
      have hc := (hf.block _ (lt_of_block Hc1.out) (by simp)).trans Hc1.out
      have c0 := heap_eq_cell hc 0
      have c1 := heap_eq_cell hc 1
      have z0 := heap_eq_frozen hc 0
      have z1 := heap_eq_frozen hc 1
      have cl := lt_of_block hc
      have Hc := Lib.hid hc
      have Hf := Lib.hid (Hf1.out.trans0 hf)
      clear hf hc b0 b1
      go_wp2
      (try simp only [Exit.inBlock, Exit.then])
      refine bodyPost_ret (big_result rfl (b := w.heap.size + 1 + 1) (x := .bool false) (y := .slice none 0 0) rfl ?_ rfl) rfl ⟨_, _, ⟨Nat.le_refl _, fun g hg => (by cases hg)⟩, rfl, reads_nil _, ?_⟩
      · have h := Hc.out
        (repeat (first | rw [if_pos (by omega)] | rw [if_neg (by omega)] | rw [hp_drew] | rw [hp_drewN] | rw [hp_alloc_size] | rw [hp_setCell_size] | rw [hp_alloc] | rw [hp_setCell] | rw [Option.map_some] | rw [upd_cells] | rw [List.set_cons_zero] | rw [List.set_cons_succ] | rfl))
        rw [h]
        (repeat (first | rw [if_pos (by omega)] | rw [if_neg (by omega)] | rw [hp_drew] | rw [hp_drewN] | rw [hp_alloc_size] | rw [hp_setCell_size] | rw [hp_alloc] | rw [hp_setCell] | rw [Option.map_some] | rw [upd_cells] | rw [List.set_cons_zero] | rw [List.set_cons_succ] | rfl))
      · exact (Hf.out.setCell (.inr (by simp; try omega)) _).setCell (.inr (by simp; try omega)) _
    | true =>
      have Hrb' := Lib.hid (fun w1 hf => hR2 ▸ Hrb.out w1 hf)
      obtain ⟨cB, lB, _⟩ := right_canon hR2
      have HcB := Lib.hid cB
      rw [hR2] at hS
      simp only [Bool.and_self, Bool.true_eq_false, if_false] at hS
      have HS := Lib.hid hS
      clear hR2 cB Hrb hS
      go_enter Tryd.func19, Tryd.ntmps19
      go_wp2_with fail
      refine (Hra'.out _ (by (repeat (first | exact Fr.refl _ _ | assumption | apply Fr.drewN | apply Fr.drew | apply Fr.alloc | refine Fr.setCell ?_ (Or.inr (by simp; try omega)) _)))).mono ?_
      rintro e w1 ⟨rfl, hf⟩
      have hb := (hf.block (w.heap.size + 1) (by simp) (by simp)).trans (show _ = some (.cells #[.bool nb, .slice b db.length bc] 24 (0, 0)) by (repeat (first | rw [if_pos (by omega)] | rw [if_neg (by omega)] | rw [hp_drew] | rw [hp_drewN] | rw [hp_alloc_size] | rw [hp_setCell_size] | rw [hp_alloc] | rw [hp_setCell] | rw [Option.map_some] | rw [upd_cells] | rw [List.set_cons_zero] | rw [List.set_cons_succ] | rfl)))
      have b0 := heap_eq_cell hb 0
      have b1 := heap_eq_cell hb 1
      have bl := lt_of_block hb
      have Hb1 := Lib.hid hb
      have Ha1 := Lib.hid ((hf.block w.heap.size (by simp; omega) (by simp)).trans (show _ = some (.cells #[.bool na, .slice a da.length ac] 24 (0, 0)) by (repeat (first | rw [if_pos (by omega)] | rw [if_neg (by omega)] | rw [hp_drew] | rw [hp_drewN] | rw [hp_alloc_size] | rw [hp_setCell_size] | rw [hp_alloc] | rw [hp_setCell] | rw [Option.map_some] | rw [upd_cells] | rw [List.set_cons_zero] | rw [List.set_cons_succ] | rfl))))
      have Hc1 := Lib.hid ((hf.block (w.heap.size + 1 + 1) (by simp) (by simp)).trans (show _ = some (.cells #[.bool false, .slice none 0 0] 24 (0, 0)) by (repeat (first | rw [if_pos (by omega)] | rw [if_neg (by omega)] | rw [hp_drew] | rw [hp_drewN] | rw [hp_alloc_size] | rw [hp_setCell_size] | rw [hp_alloc] | rw [hp_setCell] | rw [Option.map_some] | rw [upd_cells] | rw [List.set_cons_zero] | rw [List.set_cons_succ] | rfl))))
      have Hf1 := Lib.hid (Fr.trans0 (by (repeat (first | exact Fr.refl _ _ | assumption | apply Fr.drewN | apply Fr.drew | apply Fr.alloc | refine Fr.setCell ?_ (Or.inr (by simp; try omega)) _)) : Fr [] w _) hf)
      clear hf hb
      go_wp2_with fail
      refine (Hrb'.out _ Hf1.out).mono ?_
      rintro e w2 ⟨rfl, hf⟩
      have hc2 := (hf.block _ (lt_of_block Hc1.out) (by simp)).trans Hc1.out
      have ha2 := (hf.block _ (lt_of_block Ha1.out) (by simp)).trans Ha1.out
      have hb2 := (hf.block _ (lt_of_block Hb1.out) (by simp)).trans Hb1.out
      clear b0 b1 bl
      have a0 := heap_eq_cell ha2 0
      have a1 := heap_eq_cell ha2 1
      have al := lt_of_block ha2
      have b0 := heap_eq_cell hb2 0
      have b1 := heap_eq_cell hb2 1
      have bl := lt_of_block hb2
      have Hc2 := Lib.hid hc2
      have Ha2 := Lib.hid ha2
      have Hb2 := Lib.hid hb2
      have Hf2 := Lib.hid (Hf1.out.trans0 hf)
      have cl2 := lt_of_block hc2
      have Hcl2 := Lib.hid cl2
      clear hf hc2 ha2 hb2 cl2
      have Hn := Lib.hid (show ((da.length : Int) + db.length) = ((da.length + db.length : Nat) : Int) by omega)
      go_wp2_with (refine wpList_make1 rfl (t := 22) (e := 45) (n := da.length + db.length) (z := .int .u32 0) (bytes := 4) rfl (congrArg (Value.int .i64) Hn.out) (congrArg (Value.int .i64) Hn.out) Tryd.underlying22 info_u32 rfl (by omega) (by unfold maxLen; omega) ?_)
      intro w3 ho3 hf3 hsz3
      have ha3 := (hf3.block _ al (by simp)).trans Ha2.out
      have hb3 := (hf3.block _ bl (by simp)).trans Hb2.out
      have hc3 := (hf3.block _ Hcl2.out (by simp)).trans Hc2.out
      obtain ⟨n, hn⟩ : ∃ n : Nat, da.length + db.length = n := ⟨_, rfl⟩
      have hni : ((da.length : Int) + db.length) = n := by omega
      rw [hn] at ho3
      rw [hn, hni]
      obtain ⟨q, hq⟩ : ∃ q, w2.heap.size = q := ⟨_, rfl⟩
      rw [hq] at ho3
      rw [hq]
      have hq2 : w.heap.size + 1 + 1 < q := by have := Hcl2.out; omega
      have Hn2 := Lib.hid hn
      have Ho3 := Lib.hid ho3
      have Hf3 := Lib.hid (Hf2.out.trans0 hf3)
      clear a0 a1 al b0 b1 bl
      have a0 := heap_eq_cell ha3 0
      have a1 := heap_eq_cell ha3 1
      have al := lt_of_block ha3
      have Ha3 := Lib.hid ha3
      have Hb3 := Lib.hid hb3
      have Hc3 := Lib.hid hc3
      clear hf3 ho3 ha3 hb3 hc3 hn hni hq
      have Haa := Lib.hid (Ha.out.2)
      have Hbb := Lib.hid (Hb.out.2)
      go_wp2_with fail
      go_loopw [33] (fun xk wl => ∃ (i : Nat) (l : List Nat), xk = .int .i64 i ∧ i ≤ da.length ∧ l.length = n ∧ Dig 4294967296 l ∧ (∀ j, i + db.length ≤ j → l.getD j 0 = 0) ∧ val 4294967296 l = val 4294967296 (da.take i) * val 4294967296 db ∧
        wl.ownsRow q 45 1 (.slice (some ⟨q, 0, none⟩) n n) n (u32s l) ∧ wl.heap[w.heap.size]? = some (.cells #[.bool na, .slice a da.length ac] 24 (0, 0)) ∧ wl.heap[w.heap.size + 1]? = some (.cells #[.bool nb, .slice b db.length bc] 24 (0, 0)) ∧
        wl.heap[w.heap.size + 1 + 1]? = some (.cells #[.bool false, .slice none 0 0] 24 (0, 0)) ∧ Fr [] w wl) (fun xk _ => da.length - (intOf xk).toNat)
      case atStart => exact ⟨0, List.replicate n 0, rfl, by omega, List.length_replicate, Dig.replicate (by omega) n, fun j _ => by simp [List.getD_eq_getElem?_getD, List.getElem?_replicate]; split <;> rfl, by simp [val, val_replicate], by rw [u32s_zero]; exact Ho3.out, Ha3.out, Hb3.out, Hc3.out, Hf3.out⟩
      case round =>
        obtain ⟨i, l, rfl, hi, hl, hD, hz, hv, ho, ha, hb, hc, hf⟩ := hrel
        by_cases hin : i < da.length
        · obtain ⟨_, _, e0, hga⟩ := Haa.out
          simp only [Value.slice.injEq, true_and] at e0
          obtain ⟨rfl, rfl⟩ := e0
          obtain ⟨g1, o1, rfl, hg1, hc1⟩ := hga (by omega)
          have e1 := (hf.cell (p := ⟨g1, o1 + i, none⟩) hg1 (by simp)).trans (hc1 i _ (u32s_get hin))
          have hgr : g1 < wr.heap.size := by have := hf.size; omega
          have hbl := lt_of_block hb
          have b0 := heap_eq_cell hb 0
          have b1 := heap_eq_cell hb 1
          have hvt := val_take_succ 4294967296 da i
          have hx : da.getD i 0 < 4294967296 := HDa.out.getD (by omega) i
          have Hvt := Lib.hid hvt
          have Hv := Lib.hid hv
          have Hx := Lib.hid hx
          have Hzz := Lib.hid hz
          have HDl := Lib.hid hD
          have Ho := Lib.hid ho
          have Hha := Lib.hid ha
          have Hhb := Lib.hid hb
          have Hhc := Lib.hid hc
          have Hf := Lib.hid hf
          have Hl := Lib.hid hl
          have Ex : IntKind.u64.wrap ((da.getD i 0 : Nat) : Int) = (da.getD i 0 : Nat) := IntWalk.u64_in _ (by omega)
          clear hD hz hv ho ha hb hc hf hc1 hvt hx hga hl
          generalize da.getD i 0 = x at *
          go_wp2_with fail
          go_loopw [9, 41] (fun xc xk wl => ∃ (k c : Nat) (m : List Nat), xc = .int .u64 c ∧ xk = .int .i64 k ∧ k ≤ db.length ∧ c < 4294967296 ∧ m.length = n ∧ Dig 4294967296 m ∧ (∀ j, i + db.length ≤ j → m.getD j 0 = 0) ∧ val 4294967296 m + 4294967296 ^ (i + k) * c = val 4294967296 l + 4294967296 ^ i * (x * val 4294967296 (db.take k)) ∧
            wl.ownsRow q 45 1 (.slice (some ⟨q, 0, none⟩) n n) n (u32s m) ∧ wl.heap[w.heap.size]? = some (.cells #[.bool na, .slice (some ⟨g1, o1, none⟩) da.length ac] 24 (0, 0)) ∧ wl.heap[w.heap.size + 1]? = some (.cells #[.bool nb, .slice b db.length bc] 24 (0, 0)) ∧
            wl.heap[w.heap.size + 1 + 1]? = some (.cells #[.bool false, .slice none 0 0] 24 (0, 0)) ∧ Fr [] w wl) (fun _ xk _ => db.length - (intOf xk).toNat)
          case atStart => exact ⟨0, 0, l, rfl, rfl, by omega, by omega, Hl.out, HDl.out, Hzz.out, by simp [val], Ho.out, Hha.out, Hhb.out, Hhc.out, Hf.out⟩
          case round =>
            obtain ⟨k, c, m, rfl, rfl, hk, hc, hl, hD, hz, hv, ho, ha, hb, hcc, hf⟩ := hrel
            have hol := owns_lt ho rfl
            by_cases hkn : k < db.length
            · obtain ⟨_, _, e0, hgb⟩ := Hbb.out
              simp only [Value.slice.injEq, true_and] at e0
              obtain ⟨rfl, rfl⟩ := e0
              obtain ⟨g2, o2, rfl, hg2, hc2⟩ := hgb (by omega)
              have e2 := (hf.cell (p := ⟨g2, o2 + k, none⟩) hg2 (by simp)).trans (hc2 k _ (u32s_get hkn))
              have hgr2 : g2 < wr.heap.size := by have := hf.size; omega
              have hik : i + k < n := by have := Hn2.out; omega
              have e3 := owns_cell ho rfl (u32s_get (l := m) (i := i + k) (by omega))
              have hfz := owns_frozen ho rfl (i + k)
              have hset := fun d => owns_set ho rfl (j := i + k) (by rw [u32s_length]; omega) (.int .u32 d)
              have hy : db.getD k 0 < 4294967296 := HDb.out.getD (by omega) k
              have hoo : m.getD (i + k) 0 < 4294967296 := hD.getD (by omega) (i + k)
              obtain ⟨l1, l2, l3⟩ := mul_lt Hx.out hy hoo hc
              have hvt := val_take_succ 4294967296 db k
              have hst := fun s hs => mul_st (B := 4294967296) (x := x) (y := db.getD k 0) (s := s) hv hs (val_set (s % 4294967296) (by omega : i + k < m.length))
              have Hset := Lib.hid hset
              have Hst := Lib.hid hst
              have Hvt2 := Lib.hid hvt
              have Hz2 := Lib.hid hz
              have HD2 := Lib.hid hD
              have Hl2 := Lib.hid hl
              have Ha4 := Lib.hid ha
              have Hb4 := Lib.hid hb
              have Hc4 := Lib.hid hcc
              have Hf4 := Lib.hid hf
              have Ey : IntKind.u64.wrap ((db.getD k 0 : Nat) : Int) = (db.getD k 0 : Nat) := IntWalk.u64_in _ (by omega)
              have Eo : IntKind.u64.wrap ((m.getD (i + k) 0 : Nat) : Int) = (m.getD (i + k) 0 : Nat) := IntWalk.u64_in _ (by omega)
              generalize db.getD k 0 = y at *
              generalize m.getD (i + k) 0 = o at *
              have Ep : IntKind.u64.wrap ((x : Int) * (y : Int)) = ((x * y : Nat) : Int) := by rw [← Int.natCast_mul]; exact IntWalk.u64_in _ (by omega)
              have Eq1 : IntKind.u64.wrap (((x * y : Nat) : Int) + (o : Int)) = ((x * y + o : Nat) : Int) := by rw [← Int.natCast_add]; exact IntWalk.u64_in _ (by omega)
              have Eq2 : IntKind.u64.wrap (((x * y + o : Nat) : Int) + (c : Int)) = ((x * y + o + c : Nat) : Int) := by rw [← Int.natCast_add]; exact IntWalk.u64_in _ (by omega)
              obtain ⟨p, hp⟩ : ∃ p, x * y = p := ⟨_, rfl⟩
              rw [hp] at Ep Eq1 l1 l2 l3 Eq2
              obtain ⟨p1, hp1⟩ : ∃ p1, p + o = p1 := ⟨_, rfl⟩
              rw [hp1] at Eq1 Eq2 l2 l3
              obtain ⟨s, hs⟩ : ∃ s, p1 + c = s := ⟨_, rfl⟩
              rw [hs] at Eq2 l3
              have Hs := Lib.hid (show s = x * y + o + c by omega)
              have Hs3 := Lib.hid l3
              clear ho ha hb hcc hf hD hz hv hl hc2 hgb hset hst hvt l1 l2 l3 hy hoo hp hp1 hs hc
              go_wp2
              go_roundw
              case rel =>
                refine ⟨k + 1, s / 4294967296, m.set (i + k) (s % 4294967296), rfl, by go_num, by omega, by have := Hs3.out; omega, by rw [List.length_set]; exact Hl2.out, HD2.out.set (Nat.mod_lt _ (by omega)), ?_, ?_, ?_, ?_, ?_, ?_, ?_⟩
                · intro j hj
                  rw [getD_set_ne (by omega)]
                  exact Hz2.out j hj
                · have h := Hst.out s Hs.out
                  rw [show i + (k + 1) = i + k + 1 by omega, Nat.pow_succ, h, Hvt2.out, Nat.mul_add, Nat.mul_add, Nat.pow_add, Nat.add_assoc]
                  congr 2
                  simp only [Nat.mul_assoc, Nat.mul_left_comm]
                · rw [u32s_set]
                  exact Hset.out _
                · (repeat (first | rw [if_pos (by omega)] | rw [if_neg (by omega)] | rw [hp_drew] | rw [hp_drewN] | rw [hp_alloc_size] | rw [hp_setCell_size] | rw [hp_alloc] | rw [hp_setCell] | rw [Option.map_some] | rw [upd_cells] | rw [List.set_cons_zero] | rw [List.set_cons_succ] | rfl))
                  exact Ha4.out
                · (repeat (first | rw [if_pos (by omega)] | rw [if_neg (by omega)] | rw [hp_drew] | rw [hp_drewN] | rw [hp_alloc_size] | rw [hp_setCell_size] | rw [hp_alloc] | rw [hp_setCell] | rw [Option.map_some] | rw [upd_cells] | rw [List.set_cons_zero] | rw [List.set_cons_succ] | rfl))
                  exact Hb4.out
                · (repeat (first | rw [if_pos (by omega)] | rw [if_neg (by omega)] | rw [hp_drew] | rw [hp_drewN] | rw [hp_alloc_size] | rw [hp_setCell_size] | rw [hp_alloc] | rw [hp_setCell] | rw [Option.map_some] | rw [upd_cells] | rw [List.set_cons_zero] | rw [List.set_cons_succ] | rfl))
                  exact Hc4.out
                · exact Hf4.out.setCell (.inr (by simp; omega)) _
              case measure => simp [intOf]; omega
            · obtain rfl : k = db.length := by omega
              rw [List.take_length] at hv
              have hin2 : i + db.length < n := by have := Hn2.out; omega
              have hset := owns_set ho rfl (j := i + db.length) (by rw [u32s_length]; omega) (.int .u32 c)
              have hfz := owns_frozen ho rfl (i + db.length)
              have e3 := owns_cell ho rfl (u32s_get (l := m) (i := i + db.length) (by omega))
              have hvs := val_set (B := 4294967296) c (by omega : i + db.length < m.length)
              rw [hz _ (Nat.le_refl _), Nat.mul_zero, Nat.add_zero] at hvs
              have b0' := heap_eq_cell hb 0
              have b1' := heap_eq_cell hb 1
              have hbl' := lt_of_block hb
              have Ec : IntKind.u32.wrap (c : Int) = c := by rw [wrap_u32]; omega
              have HV := Lib.hid (hvs.trans hv)
              have Hset := Lib.hid hset
              have Hz2 := Lib.hid hz
              have HD2 := Lib.hid hD
              have Hl2 := Lib.hid hl
              have Ha4 := Lib.hid ha
              have Hb4 := Lib.hid hb
              have Hc4 := Lib.hid hcc
              have Hf4 := Lib.hid hf
              have Hcc := Lib.hid hc
              clear ho ha hb hcc hf hD hz hv hl hvs hset hc b0 b1
              go_wp2
              go_roundw
              case rel =>
                refine ⟨i + 1, m.set (i + db.length) c, by go_num, by omega, by rw [List.length_set]; exact Hl2.out, HD2.out.set Hcc.out, ?_, ?_, ?_, ?_, ?_, ?_, ?_⟩
                · intro j hj
                  rw [getD_set_ne (by omega)]
                  exact Hz2.out j (by omega)
                · rw [HV.out, Hv.out, Hvt.out, Nat.add_mul]
                  congr 1
                  simp only [Nat.mul_assoc]
                · rw [u32s_set]
                  exact Hset.out
                · (repeat (first | rw [if_pos (by omega)] | rw [if_neg (by omega)] | rw [hp_drew] | rw [hp_drewN] | rw [hp_alloc_size] | rw [hp_setCell_size] | rw [hp_alloc] | rw [hp_setCell] | rw [Option.map_some] | rw [upd_cells] | rw [List.set_cons_zero] | rw [List.set_cons_succ] | rfl))
                  exact Ha4.out
                · (repeat (first | rw [if_pos (by omega)] | rw [if_neg (by omega)] | rw [hp_drew] | rw [hp_drewN] | rw [hp_alloc_size] | rw [hp_setCell_size] | rw [hp_alloc] | rw [hp_setCell] | rw [Option.map_some] | rw [upd_cells] | rw [List.set_cons_zero] | rw [List.set_cons_succ] | rfl))
                  exact Hb4.out
                · (repeat (first | rw [if_pos (by omega)] | rw [if_neg (by omega)] | rw [hp_drew] | rw [hp_drewN] | rw [hp_alloc_size] | rw [hp_setCell_size] | rw [hp_alloc] | rw [hp_setCell] | rw [Option.map_some] | rw [upd_cells] | rw [List.set_cons_zero] | rw [List.set_cons_succ] | rfl))
                  exact Hc4.out
                · exact Hf4.out.setCell (.inr (by simp; omega)) _
              case measure => simp [intOf]; omega
        · obtain rfl : i = da.length := by omega
          rw [List.take_length] at hv
          have a0' := heap_eq_cell ha 0
          have al' := lt_of_block ha
          have b0' := heap_eq_cell hb 0
          have bl' := lt_of_block hb
          have Hv := Lib.hid hv
          have Ho := Lib.hid ho
          have HDl := Lib.hid hD
          have Hl := Lib.hid hl
          have Hcc := Lib.hid hc
          have Hf := Lib.hid hf
          clear hv ho hD hl hc hf ha hb hz a0 a1 al
          go_wp2_with fail
          have hln := Hl.out
          have Hmc := Lib.hid (made_calls (w := wr) (neg := !na == nb) (ds := l) (a := some ⟨q, 0, none⟩) (c := n) (by have h := Reads.of_owns Ho.out; rw [hln]; exact h) HDl.out (by have := Hn2.out; omega) (by omega) (A := fun g => q ≤ g) (fun g hg => by
            have h : q = g := by simpa [Value.ownBlock] using hg
            omega))
          have hmc := Hmc.out
          rw [hln] at hmc
          refine hmc.mono ?_
          rintro e w4 ⟨ra, rc, hlo, rfl, hr, hf⟩
          have hbb : (!na == nb) = (na != nb) := by cases na <;> cases nb <;> rfl
          rw [Hv.out, hbb, ← HS.out] at hlo hr
          rw [Hv.out, hbb, ← HS.out]
          have hc4 := (hf.block _ (lt_of_block Hcc.out) (by simp)).trans Hcc.out
          have c0 := heap_eq_cell hc4 0
          have c1 := heap_eq_cell hc4 1
          have z0 := heap_eq_frozen hc4 0
          have z1 := heap_eq_frozen hc4 1
          have cl := lt_of_block hc4
          have Hc := Lib.hid hc4
          have Hlo := Lib.hid hlo
          have Hr := Lib.hid hr
          have Hf5 := Lib.hid (Hf.out.trans0 hf)
          have Hq2 := Lib.hid hq2
          clear hlo hr hf hc4 hmc Hmc hln
          obtain ⟨r1, r2, r3⟩ := r
          go_wp2
          (try simp only [Exit.inBlock, Exit.then])
          refine bodyPost_ret (big_result rfl (b := w.heap.size + 1 + 1) (x := .bool r1) (y := .slice ra r2.length rc) rfl ?_ rfl) rfl ⟨_, _, ⟨Hlo.out.1, fun g hg => (by have := Hlo.out.2 g hg; have := Hq2.out; omega)⟩, rfl, ?_, ?_⟩
          · have h := Hc.out
            (repeat (first | rw [if_pos (by omega)] | rw [if_neg (by omega)] | rw [hp_drew] | rw [hp_drewN] | rw [hp_alloc_size] | rw [hp_setCell_size] | rw [hp_alloc] | rw [hp_setCell] | rw [Option.map_some] | rw [upd_cells] | rw [List.set_cons_zero] | rw [List.set_cons_succ] | rfl))
            rw [h]
            (repeat (first | rw [if_pos (by omega)] | rw [if_neg (by omega)] | rw [hp_drew] | rw [hp_drewN] | rw [hp_alloc_size] | rw [hp_setCell_size] | rw [hp_alloc] | rw [hp_setCell] | rw [Option.map_some] | rw [upd_cells] | rw [List.set_cons_zero] | rw [List.set_cons_succ] | rfl))
          · refine Hr.out.keep fun x hx hl => ?_
            have := Hlo.out.2 x hx
            have hcl := Hq2.out
            rw [setCell_else _ _ _ (by simp; omega), setCell_else _ _ _ (by simp; omega)]
          · exact (Hf5.out.setCell (.inr (by simp; try omega)) _).setCell (.inr (by simp; try omega)) _
end Go.Proofs.YtbacamboknmppaaDoor
