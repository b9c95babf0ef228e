/- Own texts of this claim, part 16: no condition. -/
import Derived.Test.YtbpaadpocihahaaZM9
import Derived.Test.YtbpaadpocihahaaZM14
import Derived.Test.YtbpaadpocihahaaZM11
import Derived.Test.YtbpaadpocihahaaZM12
set_option linter.unusedVariables false
set_option linter.unusedSimpArgs false
section
/- Law RefuteProves: all values of few variables. Nothing of the program. -/
namespace Go.Proofs.Ytbpaadpocihahaa
open Go Go.Proofs.Sv Go.Proofs.Rp
set_option linter.unusedVariables false
set_option linter.unusedSimpArgs false
def valN (V n : Nat) : List Bool := (List.range V).map fun v => n.testBit v
theorem valN_len (V n : Nat) : (valN V n).length = V := by simp [valN]
theorem valN_all : ∀ (V : Nat) (A : List Bool), A.length = V → ∃ n, n < 2 ^ V ∧ valN V n = A := by
  intro V
  induction V with
  | zero => intro A h; exact ⟨0, by simp, by rw [List.eq_nil_of_length_eq_zero h]; rfl⟩
  | succ V ih =>
    intro A h
    obtain ⟨B, b, rfl⟩ : ∃ B b, A = B ++ [b] := ⟨A.dropLast, A.getLast (by intro e; rw [e] at h; simp at h), (List.dropLast_concat_getLast _).symm⟩
    simp at h
    obtain ⟨m, hm, hv⟩ := ih B h
    refine ⟨b.toNat * 2 ^ V + m, ?_, ?_⟩
    · rw [Nat.pow_succ]
      cases b <;> simp <;> omega
    · unfold valN at hv ⊢
      rw [List.range_succ, List.map_append, ← hv]
      congr 1
      · apply List.map_congr_left
        intro v hvr
        have hvV : v < V := List.mem_range.1 hvr
        rw [Nat.mul_comm, Nat.testBit_two_pow_mul_add _ hm, if_pos hvV]
      · simp only [List.map_cons, List.map_nil]
        rw [Nat.mul_comm, Nat.testBit_two_pow_mul_add _ hm, if_neg (Nat.lt_irrefl _), Nat.sub_self]
        cases b <;> rfl
theorem sat_pad {V : Nat} {cs : List (List Int)} (hr : ∀ c ∈ cs, ∀ x ∈ c, x ≠ 0 ∧ x.natAbs ≤ V) (A : List Bool) : sat cs ((List.range V).map fun v => A.getD v false) = sat cs A := by
  have key : ∀ x : Int, x ≠ 0 → x.natAbs ≤ V → litT ((List.range V).map fun v => A.getD v false) x = litT A x := by
    intro x h0 hx
    unfold litT
    congr 1
    rw [List.getD_eq_getElem?_getD, List.getElem?_map, List.getElem?_range (by omega)]
    rfl
  unfold sat
  rw [Bool.eq_iff_iff, List.all_eq_true, List.all_eq_true]
  constructor
  · intro h c hc
    obtain ⟨x, hx, ht⟩ := List.any_eq_true.1 (h c hc)
    exact List.any_eq_true.2 ⟨x, hx, by rw [← key x (hr c hc x hx).1 (hr c hc x hx).2]; exact ht⟩
  · intro h c hc
    obtain ⟨x, hx, ht⟩ := List.any_eq_true.1 (h c hc)
    exact List.any_eq_true.2 ⟨x, hx, by rw [key x (hr c hc x hx).1 (hr c hc x hx).2]; exact ht⟩
/-- some values make the formula true -/
def someB (V : Nat) (cs : List (List Int)) : Bool := (List.range (2 ^ V)).any fun n => sat cs (valN V n)
theorem someB_iff {V : Nat} {cs : List (List Int)} (hr : ∀ c ∈ cs, ∀ x ∈ c, x ≠ 0 ∧ x.natAbs ≤ V) : someB V cs = true ↔ ∃ A, sat cs A = true := by
  unfold someB
  rw [List.any_eq_true]
  constructor
  · rintro ⟨n, _, h⟩; exact ⟨_, h⟩
  · rintro ⟨A, h⟩
    obtain ⟨n, hn, hv⟩ := valN_all V ((List.range V).map fun v => A.getD v false) (by simp)
    exact ⟨n, List.mem_range.2 hn, by rw [hv, sat_pad hr]; exact h⟩
end Go.Proofs.Ytbpaadpocihahaa
end

section
/- Law RefuteProves: satisfiable. -/
namespace Go.Proofs.Ytbpaadpocihahaa
open Go Go.RowKit Go.Proofs.Rg Go.Proofs.Mp Go.Proofs.Hp Go.Proofs.Sv Go.Proofs.Rp
set_option linter.unusedVariables false
set_option linter.unusedSimpArgs false
theorem bit_i64 {n v : Nat} (hn : n < 1024) (hv : v < 10) : (bits BinOp.and IntKind.i64 ((n : Int) / 2 ^ v) 1 == 1) = n.testBit v := by
  have hx : ((n : Int) / 2 ^ v) = ((n / 2 ^ v : Nat) : Int) := by simp
  have hq : n / 2 ^ v < 1024 := Nat.lt_of_le_of_lt (Nat.div_le_self _ _) hn
  have key : ∀ q : Fin 1024, (bits BinOp.and IntKind.i64 ((q.1 : Nat) : Int) 1 == 1) = decide (q.1 % 2 = 1) := by decide +kernel
  rw [hx, key ⟨n / 2 ^ v, hq⟩, Nat.testBit_eq_decide_div_mod_eq]
theorem valN_next {V n k : Nat} (hk : k < V) : (bv ((valN V n).take k) ++ List.replicate (V - k) (Value.bool false)).set k (.bool (n.testBit k)) = bv ((valN V n).take (k + 1)) ++ List.replicate (V - (k + 1)) (Value.bool false) := by
  have hl : (bv ((valN V n).take k)).length = k := by rw [bv_length, List.length_take, valN_len]; omega
  have hg : (valN V n)[k]? = some (n.testBit k) := by
    unfold valN
    rw [List.getElem?_map, List.getElem?_range hk]; rfl
  rw [List.take_add_one, hg, List.set_append_right _ _ (by omega), hl, Nat.sub_self]
  obtain ⟨m, hm⟩ : ∃ m, V - k = m + 1 := ⟨V - k - 1, by omega⟩
  rw [hm, show V - (k + 1) = m by omega]
  simp [bv, List.replicate_succ]
theorem hold_full {cs : List (List Int)} {l : List Bool} (h : ∀ c ∈ cs, ∀ x ∈ c, x ≠ 0 ∧ x.natAbs ≤ l.length) : hold cs l = sat cs l := by
  unfold hold sat
  rw [Bool.eq_iff_iff, List.all_eq_true, List.all_eq_true]
  constructor
  · intro hh c hc
    obtain ⟨x, hx, ht⟩ := List.any_eq_true.1 (hh c hc)
    refine List.any_eq_true.2 ⟨x, hx, ?_⟩
    unfold opn at ht
    rw [decide_eq_false (by have := (h c hc x hx).2; omega), Bool.false_or] at ht
    exact ht
  · intro hh c hc
    obtain ⟨x, hx, ht⟩ := List.any_eq_true.1 (hh c hc)
    exact List.any_eq_true.2 ⟨x, hx, by unfold opn; rw [ht, Bool.or_true]⟩
set_option maxHeartbeats 8000000 in
set_option maxRecDepth 100000 in
theorem satisfiable_calls {w : World} {V : Nat} {a : Option Addr} {c : Nat} {cs : List (List Int)} (h : FormAt w a c cs) (hs : ∀ r ∈ cs, r.length ≤ 1000000) (hr : rightF V cs = true) (hV : V ≤ 10) :
    Calls Try.prog 22 #[.agg #[.int .i64 (V : Int), .slice a cs.length c]] w fun e w' => e = .returned (.bool (someB V cs)) ∧ Fr [] w w' := by
  have HI := Lib.hid h
  have HS := Lib.hid hs
  have HR := Lib.hid hr
  obtain ⟨n, hn⟩ : ∃ n, cs.length = n := ⟨_, rfl⟩
  have H0 := Lib.hid ((Has.nil (Fr.refl [] w)).newBlk (.cells #[.int .i64 (V : Int), .slice a n c] 24 (0, 0)))
  obtain ⟨B, hB⟩ : ∃ B, someB V cs = B := ⟨_, rfl⟩
  have HB := Lib.hid hB
  obtain ⟨M, hM⟩ : ∃ M, 2 ^ V = M := ⟨_, rfl⟩
  have hM1 : M ≤ 1024 := by
    rw [← hM]
    exact Nat.pow_le_pow_right (by omega) hV
  have HM := Lib.hid hM
  rw [hn, hB]
  have HN := Lib.hid hn
  have hsh : wrap64 ((2 : Int) ^ V) = (M : Int) := by
    have h1 : ((2 : Int) ^ V) = ((2 ^ V : Nat) : Int) := by simp
    rw [h1, hM]
    unfold wrap64
    omega
  clear h hs hr hn hB hM
  go_enter Try.func22, Try.ntmps22
  go_wp2
  rw [hsh]
  clear hsh
  go_loopg [12] M (fun gg z wr => ∃ i : Nat, i ≤ M ∧ M - i ≤ gg ∧ z = .int .i64 (i : Int) ∧ Hid (∀ j, j < i → sat cs (valN V j) = false) ∧ Hid (Has w wr [Hp.blk w.heap.size (.cells #[.int .i64 (V : Int), .slice a n c] 24 (0, 0))]))
  case atStart => exact ⟨0, Nat.zero_le _, by omega, rfl, Lib.hid (fun j hj => absurd hj (Nat.not_lt_zero j)), Lib.hid (H0.out.step (by (repeat first | exact Fr.refl _ _ | assumption | apply Fr.n | apply Fr.d | apply Fr.a | refine Fr.s ?_ (.inr (by simp; try omega)) _)))⟩
  case round =>
    obtain ⟨i, hi, hg, rfl, HX, HH⟩ := hrel
    have hb := HH.out.blk
    have v0 : _ = some _ := heap_eq_cell hb 0
    have v1 : _ = some _ := heap_eq_cell hb 1
    have vl := lt_of_block hb
    clear H0 hb
    by_cases hin : i < M
    · have hmaxl : (10 : Nat) ≤ maxLen := by decide
      have hlm : V ≤ maxLen := by omega
      clear hmaxl
      go_wp2_with (refine wpList_make1 (n := V) (z := .bool false) (bytes := 1) (e := 4) rfl rfl rfl rfl Try.underlying42 (by kernel_rfl) rfl (by omega) hlm ?_)
      intro w1 hrow1 hf1 hs1
      have h2 : Has w w1 (Hp.row 4 1 (.slice (some ⟨wr.heap.size, 0, none⟩) V V) V (List.replicate V (.bool false)) :: [Hp.blk w.heap.size (.cells #[.int .i64 (V : Int), .slice a n c] 24 (0, 0))]) := HH.out.newRow hf1 hrow1
      obtain ⟨rb, hrb⟩ : ∃ b, wr.heap.size = b := ⟨_, rfl⟩
      rw [hrb] at h2 ⊢
      have H2 := Lib.hid h2
      clear h2 hrow1 hf1 hs1 hrb HH v0 v1 vl
      go_wp2
      go_loopg [20] V (fun gg z wr2 => ∃ k : Nat, k ≤ V ∧ V - k ≤ gg ∧ z = .int .i64 (k : Int) ∧ Hid (Has w wr2 (Hp.row 4 1 (.slice (some ⟨rb, 0, none⟩) V V) V (bv ((valN V i).take k) ++ List.replicate (V - k) (.bool false)) :: [Hp.blk w.heap.size (.cells #[.int .i64 (V : Int), .slice a n c] 24 (0, 0))])))
      case atStart => exact ⟨0, Nat.zero_le _, by omega, rfl, Lib.hid (by simpa [bv] using H2.out.step (by (repeat first | exact Fr.refl _ _ | assumption | apply Fr.n | apply Fr.d | apply Fr.a | refine Fr.s ?_ (.inr (by simp; try omega)) _)))⟩
      case round =>
        obtain ⟨k, hk, hgk, rfl, H1⟩ := hrel
        clear H2
        by_cases hkV : k < V
        · have hr := H1.out.row
          have hlen : (bv ((valN V i).take k) ++ List.replicate (V - k) (Value.bool false)).length = V := by
            rw [List.length_append, bv_length, List.length_take, valN_len, List.length_replicate]; omega
          obtain ⟨y, hy⟩ : ∃ y, (bv ((valN V i).take k) ++ List.replicate (V - k) (Value.bool false))[k]? = some y := ⟨_, List.getElem?_eq_getElem (by omega)⟩
          have r0 := owns_cell hr rfl hy
          have rz := owns_frozen hr rfl k
          have rl := owns_lt hr rfl
          have hbit := bit_i64 (n := i) (v := k) (by omega) (by omega)
          have hset := Has.rowSet (j := k) H1.out (by omega) (.bool (i.testBit k))
          rw [valN_next hkV] at hset
          have HS := Lib.hid hset
          clear hr hlen hy hset H1
          go_wp2
          go_roundg (V - (k + 1))
          case measure => omega
          case rel => exact ⟨k + 1, hkV, Nat.le_refl _, by simp, Lib.hid (HS.out.step (by (repeat first | exact Fr.refl _ _ | assumption | apply Fr.n | apply Fr.d | apply Fr.a | refine Fr.s ?_ (.inr (by simp; try omega)) _)))⟩
        · obtain rfl : k = V := by omega
          have h3 := H1.out
          rw [List.take_of_length_le (by rw [valN_len]; exact Nat.le_refl _), Nat.sub_self, List.replicate_zero, List.append_nil] at h3
          have hrd : BoolsAt wr (.slice (some ⟨rb, 0, none⟩) (valN k i).length k) (valN k i) := by
            unfold BoolsAt
            rw [valN_len]
            exact h3.rowReads
          have hEV := fun w' (hf : Fr [] wr w') => REval_calls (V := (k : Int)) ((HI.out.fr h3.fr).fr hf) HS.out (hrd.fr hf) (by rw [valN_len]; omega)
          rw [valN_len, HN.out] at hEV
          have HEV := Lib.hid hEV
          have hb := (h3.bring 1).blk
          have v0 : _ = some _ := heap_eq_cell hb 0
          have v1 : _ = some _ := heap_eq_cell hb 1
          have vl := lt_of_block hb
          have H3 := Lib.hid h3
          clear h3 hrd hEV hb H1
          go_wp2_with fail
          refine (HEV.out _ (by (repeat first | exact Fr.refl _ _ | assumption | apply Fr.n | apply Fr.d | apply Fr.a | refine Fr.s ?_ (.inr (by simp; try omega)) _))).mono ?_
          rintro e w4 ⟨he, hf4⟩
          obtain ⟨B1, hB1⟩ : ∃ B1, sat cs (valN k i) = B1 := ⟨_, rfl⟩
          obtain rfl : e = .returned (.tuple #[.bool B1, .int .i64 0]) := by
            rcases he with ⟨hno, _⟩ | ⟨_, _, rfl⟩
            · exact absurd ⟨HR.out, by rw [valN_len]⟩ hno
            · rw [hold_full (fun c hc x hx => by rw [valN_len]; exact (rightF_len HR.out).2.2 c hc x hx), hB1]
          have HB1 := Lib.hid hB1
          have H4 := Lib.hid (((H3.out.step (Fr.trans0 (by (repeat first | exact Fr.refl _ _ | assumption | apply Fr.n | apply Fr.d | apply Fr.a | refine Fr.s ?_ (.inr (by simp; try omega)) _)) hf4)).ord 2 [1]))
          clear he hf4 hB1 HEV v0 v1 vl H3
          cases B1 with
          | true =>
            go_wp2
            go_ret
            refine ⟨?_, H4.out.fr⟩
            have hin2 : i < 2 ^ k := by rw [HM.out]; exact hin
            have : someB k cs = true := List.any_eq_true.2 ⟨i, List.mem_range.2 hin2, HB1.out⟩
            rw [← HB.out, this]
            rfl
          | false =>
            go_wp2
            go_roundg (M - (i + 1))
            case measure => omega
            case rel =>
              refine ⟨i + 1, hin, Nat.le_refl _, by simp, Lib.hid (fun j hj => ?_), Lib.hid (H4.out.step (by (repeat first | exact Fr.refl _ _ | assumption | apply Fr.n | apply Fr.d | apply Fr.a | refine Fr.s ?_ (.inr (by simp; try omega)) _)))⟩
              rcases Nat.lt_or_eq_of_le (Nat.le_of_lt_succ hj) with hj | rfl
              · exact HX.out j hj
              · exact HB1.out
    · obtain rfl : i = M := by omega
      go_wp2
      go_ret
      refine ⟨?_, (HH.out.step (by (repeat first | exact Fr.refl _ _ | assumption | apply Fr.n | apply Fr.d | apply Fr.a | refine Fr.s ?_ (.inr (by simp; try omega)) _))).fr⟩
      have : someB V cs = false := by
        unfold someB
        rw [List.any_eq_false]
        intro j hj
        have hj2 : j < i := by rw [← HM.out]; exact List.mem_range.1 hj
        rw [HX.out j hj2]
        simp
      rw [← HB.out, this]
      rfl
end Go.Proofs.Ytbpaadpocihahaa
end

section
/- Law RefuteProves, walked. -/
namespace Go.Proofs.Ytbpaadpocihahaa
open Go Go.RowKit Go.Proofs.Rg Go.Proofs.Mp Go.Proofs.Hp Go.Proofs.Sv Go.Proofs.Rp
set_option linter.unusedVariables false
set_option linter.unusedSimpArgs false
theorem flat_le {k : Nat} : ∀ {l : List (List Int)}, (∀ r ∈ l, r.length ≤ k) → l.flatten.length ≤ l.length * k
  | [], _ => by simp
  | r :: l, h => by
    have h1 := flat_le (l := l) fun x hx => h x (List.mem_cons_of_mem _ hx)
    have h2 := h r (List.mem_cons_self ..)
    rw [List.flatten_cons, List.length_append, List.length_cons, Nat.add_mul]
    omega
theorem flat_two {k m n : Nat} {cs p : List (List Int)} (h : ∀ r ∈ cs, r.length ≤ k) (hp : ∀ r ∈ p, r.length ≤ k) (hc : cs.length ≤ m) (hl : p.length ≤ n) (hs : (m + n) * k ≤ 7000000) : (cs ++ p).flatten.length ≤ 7000000 := by
  have h1 := flat_le (l := cs ++ p) (k := k) fun r hr => (List.mem_append.1 hr).elim (h r) (hp r)
  rw [List.length_append] at h1
  exact Nat.le_trans h1 (Nat.le_trans (Nat.mul_le_mul_right _ (by omega)) hs)
theorem pow_ten {V : Nat} (h : V ≤ 10) : 2 ^ (V + 1) ≤ 2048 := Nat.pow_le_pow_right (n := 2) (by omega) (show V + 1 ≤ 11 by omega)
theorem lits_valid2 {V : Nat} {cs : List (List Int)} {PV : List (Value × List Int)} (hr : rightF V cs = true) (hlv : LitsLV V PV) (hlen : PV.length ≤ 2048) : validB V cs (PV.map (·.2)) = true := by
  obtain ⟨_, hV, _⟩ := rightF_len hr
  unfold validB
  rw [hr, Bool.true_and]
  unfold rightF
  simp only [Bool.and_eq_true, Bool.not_eq_true', Bool.or_eq_false_iff, decide_eq_false_iff_not, List.all_eq_true, List.length_map]
  refine ⟨⟨⟨by omega, by omega⟩, by omega⟩, fun c hc x hx => ?_⟩
  obtain ⟨q, hq, rfl⟩ := List.mem_map.1 hc
  have := (hlv q hq).2 x hx
  unfold okLit
  simp
  omega
theorem under_m {W : World} {Qs : List Res} {OV : List (Value × List Int)} {oa : Option Addr} {oc n V : Nat} (hn : OV.length = n) (h8 : n ≤ 2048) (hlv : LitsLV V OV) (hV : V ≤ 10) :
    FormHs W (Hp.row 25 1 (.slice oa n oc) n (OV.map (·.1)) :: bun (OV.map rowC) :: Qs) oa oc (OV.map (·.1)) (OV.map (·.2)) := by
  subst hn
  exact under_hs (fun q hq => by have := (hlv q hq).1; omega) (by omega)
theorem some_no {V : Nat} {cs p : List (List Int)} (hr : rightF V cs = true) (hp : NoZ p) (h : accB cs p = true) : someB V cs = false := by
  cases hs : someB V cs with
  | false => rfl
  | true =>
    obtain ⟨A, hA⟩ := (someB_iff (rightF_len hr).2.2).1 hs
    rw [acc_sound (right_noz hr) hp h] at hA
    cases hA
set_option maxHeartbeats 16000000 in
set_option maxRecDepth 100000 in
theorem RefuteProves_calls (haw : AwakeOk) {w : World} {V : Int} {a : Option Addr} {c : Nat} {cs : List (List Int)} (h : FormAt w a c cs) (hac : a = none → c = 0) :
    Calls Try.prog 5 #[.agg #[.int .i64 V, .slice a cs.length c]] w fun e w' => e = .returned (.bool true) ∧ Fr [] w w' := by
  have HAW := Lib.hid haw
  have HAC := Lib.hid hac
  have hp0 : ∀ w' : World, FormAt w' none 0 [] := fun w' => (form_nil (W := w') (Ps := []) (vs := [])).src _ _ (Has.nil (Fr.refl [] w')) fun P hP => hP
  have HT := Lib.hid (fun w' (hf : Fr [] w w') => few_calls (V := V) (h.fr hf) (hp0 w'))
  have HI := Lib.hid h
  obtain ⟨n, hn⟩ : ∃ m, cs.length = m := ⟨_, rfl⟩
  have H0 := Lib.hid ((Has.nil (Fr.refl [] w)).newBlk (.cells #[.int .i64 V, .slice a n c] 24 (0, 0)))
  have HN := Lib.hid hn
  rw [hn] at HT
  rw [hn]
  clear h haw hn hp0 hac
  go_enter Try.func5, Try.ntmps5
  go_wp2_with fail
  refine (HT.out _ (by (repeat first | exact Fr.refl _ _ | assumption | apply Fr.n | apply Fr.d | apply Fr.a | refine Fr.s ?_ (.inr (by simp; try omega)) _))).mono ?_
  rintro e w1 ⟨rfl, hf1⟩
  obtain ⟨fb, hfb⟩ : ∃ b, w.heap.size = b := ⟨_, rfl⟩
  have h1 := H0.out.step (Fr.trans0 (by (repeat first | exact Fr.refl _ _ | assumption | apply Fr.n | apply Fr.d | apply Fr.a | refine Fr.s ?_ (.inr (by simp; try omega)) _)) hf1)
  rw [hfb] at h1 ⊢
  have hb := h1.blk
  have v0 : _ = some _ := heap_eq_cell hb 0
  have v1 : _ = some _ := heap_eq_cell hb 1
  have vl := lt_of_block hb
  have H1 := Lib.hid h1
  obtain ⟨T, hT⟩ : ∃ T, fewF cs [] = T := ⟨_, rfl⟩
  rw [hT]
  have HTT := Lib.hid hT
  clear hf1 h1 hb hfb hT HT H0
  cases T with
  | false =>
    go_wp2_with fail
    refine (HAW.out _).mono ?_
    rintro e w9 ⟨rfl, hf9⟩
    have HF9 := Lib.hid hf9
    clear hf9
    go_wp2
    go_ret
    exact ⟨rfl, H1.out.fr.trans0 HF9.out⟩
  | true =>
    by_cases hbad : V > 10 ∧ V ≤ 65536
    · have b0 : decide (V > 10) = true := by simp; omega
      have b1 : decide (V ≤ 65536) = true := by simp; omega
      go_wp2_with fail
      refine (HAW.out _).mono ?_
      rintro e w9 ⟨rfl, hf9⟩
      have HF9 := Lib.hid hf9
      clear hf9
      go_wp2
      go_ret
      exact ⟨rfl, H1.out.fr.trans0 HF9.out⟩
    obtain ⟨hc40, _, hc20, _⟩ := fewF_iff.1 HTT.out
    rw [HN.out] at hc40
    obtain ⟨vs, hFH⟩ := FormHs.base (Ps := []) HI.out
    have HC20 := Lib.hid hc20
    have HCM := Lib.hid (fun r hr => Nat.le_trans (hc20 r hr) (by omega) : ∀ r ∈ cs, r.length ≤ 1000000)
    have HFH := Lib.hid hFH
    have HSM := Lib.hid (fun hr : rightF V cs = true => by
      obtain ⟨n, rfl, _⟩ := rightF_nat hr
      omega : rightF V cs = true → V ≤ 10)
    have HPC := Lib.hid (fun w' (hf : Fr [] w1 w') => Prove_calls (V := V) (H1.out.step hf) (HFH.out.more fun P hP => by simp at hP) HCM.out HSM.out)
    rw [HN.out] at HPC
    have hgo : ∃ x y : Bool, decide (V > 10) = x ∧ (x = true → decide (V ≤ 65536) = false) := by
      by_cases h10 : V > 10
      · exact ⟨true, true, by simp; omega, fun _ => by simp; omega⟩
      · exact ⟨false, true, by simp; omega, fun h => by cases h⟩
    obtain ⟨x, _, hx, hy⟩ := hgo
    clear hc20 hFH hbad
    cases x with
    | true =>
      have hy := hy rfl
      have hno : rightF V cs = false := by
        cases hr : rightF V cs with
        | false => rfl
        | true =>
          have := HSM.out hr
          simp at hx
          omega
      have HNO := Lib.hid hno
      clear hno
      go_wp2_with fail
      refine (HPC.out _ (by (repeat first | exact Fr.refl _ _ | assumption | apply Fr.n | apply Fr.d | apply Fr.a | refine Fr.s ?_ (.inr (by simp; try omega)) _))).mono ?_
      rintro e w2 (⟨hr, rfl, h2⟩ | ⟨hr, _⟩ | ⟨hr, _⟩)
      rotate_left
      · rw [HNO.out] at hr; cases hr
      · rw [HNO.out] at hr; cases hr
      have H2 := Lib.hid h2
      clear h2
      clear HPC
      have hb := blk_mem H2.out (b := fb) (o := .cells #[.int .i64 V, .slice a n c] 24 (0, 0)) (by simp)
      (try clear v0 v1 vl)
      have v0 : _ = some _ := heap_eq_cell hb 0
      have v1 : _ = some _ := heap_eq_cell hb 1
      have vl := lt_of_block hb
      clear hb
      have HRC := Lib.hid (fun w' (hf : Fr [] w2 w') => R40Right_calls (V := V) (HI.out.fr (H2.out.fr.trans0 hf)))
      rw [HN.out, hr] at HRC
      clear hr
      go_wp2_with fail
      refine (HRC.out _ (by (repeat first | exact Fr.refl _ _ | assumption | apply Fr.n | apply Fr.d | apply Fr.a | refine Fr.s ?_ (.inr (by simp; try omega)) _))).mono ?_
      rintro e w3 ⟨rfl, hf3⟩
      have H3 := Lib.hid (H2.out.step hf3)
      clear hf3 HRC H2
      have hb := blk_mem H3.out (b := fb) (o := .cells #[.int .i64 V, .slice a n c] 24 (0, 0)) (by simp)
      (try clear v0 v1 vl)
      have v0 : _ = some _ := heap_eq_cell hb 0
      have v1 : _ = some _ := heap_eq_cell hb 1
      have vl := lt_of_block hb
      clear hb
      go_wp2_with fail
      refine (HAW.out _).mono ?_
      rintro e w9 ⟨rfl, hf9⟩
      have HF9 := Lib.hid hf9
      clear hf9
      go_wp2
      go_ret
      exact ⟨rfl, H3.out.fr.trans0 HF9.out⟩
    | false =>
      clear hy
      go_wp2_with fail
      refine (HPC.out _ (by (repeat first | exact Fr.refl _ _ | assumption | apply Fr.n | apply Fr.d | apply Fr.a | refine Fr.s ?_ (.inr (by simp; try omega)) _))).mono ?_
      rintro e w2 (⟨hr, rfl, h2⟩ | ⟨hr, hsat, rfl, h2⟩ | ⟨hr, PV, va, vc, hacc, hlv, hlen, rfl, h2⟩)
      ·
        have H2 := Lib.hid h2
        clear h2
        clear HPC
        have hb := blk_mem H2.out (b := fb) (o := .cells #[.int .i64 V, .slice a n c] 24 (0, 0)) (by simp)
        (try clear v0 v1 vl)
        have v0 : _ = some _ := heap_eq_cell hb 0
        have v1 : _ = some _ := heap_eq_cell hb 1
        have vl := lt_of_block hb
        clear hb
        have HRC := Lib.hid (fun w' (hf : Fr [] w2 w') => R40Right_calls (V := V) (HI.out.fr (H2.out.fr.trans0 hf)))
        rw [HN.out, hr] at HRC
        clear hr
        go_wp2_with fail
        refine (HRC.out _ (by (repeat first | exact Fr.refl _ _ | assumption | apply Fr.n | apply Fr.d | apply Fr.a | refine Fr.s ?_ (.inr (by simp; try omega)) _))).mono ?_
        rintro e w3 ⟨rfl, hf3⟩
        have H3 := Lib.hid (H2.out.step hf3)
        clear hf3 HRC H2
        have hb := blk_mem H3.out (b := fb) (o := .cells #[.int .i64 V, .slice a n c] 24 (0, 0)) (by simp)
        (try clear v0 v1 vl)
        have v0 : _ = some _ := heap_eq_cell hb 0
        have v1 : _ = some _ := heap_eq_cell hb 1
        have vl := lt_of_block hb
        clear hb
        go_wp2_with fail
        refine (HAW.out _).mono ?_
        rintro e w9 ⟨rfl, hf9⟩
        have HF9 := Lib.hid hf9
        clear hf9
        go_wp2
        go_ret
        exact ⟨rfl, H3.out.fr.trans0 HF9.out⟩
      · obtain ⟨V, rfl, hV6⟩ := rightF_nat hr
        have hV10 : V ≤ 10 := by have := HSM.out hr; omega
        have HR := Lib.hid hr
        have HSA := Lib.hid hsat
        have H2 := Lib.hid h2
        clear h2 hsat
        clear HPC
        have hb := blk_mem H2.out (b := fb) (o := .cells #[.int .i64 (V : Int), .slice a n c] 24 (0, 0)) (by simp)
        (try clear v0 v1 vl)
        have v0 : _ = some _ := heap_eq_cell hb 0
        have v1 : _ = some _ := heap_eq_cell hb 1
        have vl := lt_of_block hb
        clear hb
        have HRC := Lib.hid (fun w' (hf : Fr [] w2 w') => R40Right_calls (V := (V : Int)) (HI.out.fr (H2.out.fr.trans0 hf)))
        rw [HN.out, hr] at HRC
        clear hr
        go_wp2_with fail
        refine (HRC.out _ (by (repeat first | exact Fr.refl _ _ | assumption | apply Fr.n | apply Fr.d | apply Fr.a | refine Fr.s ?_ (.inr (by simp; try omega)) _))).mono ?_
        rintro e w3 ⟨rfl, hf3⟩
        have H3 := Lib.hid (H2.out.step hf3)
        clear hf3 HRC H2
        have hb := blk_mem H3.out (b := fb) (o := .cells #[.int .i64 (V : Int), .slice a n c] 24 (0, 0)) (by simp)
        (try clear v0 v1 vl)
        have v0 : _ = some _ := heap_eq_cell hb 0
        have v1 : _ = some _ := heap_eq_cell hb 1
        have vl := lt_of_block hb
        clear hb
        have HSC := Lib.hid (fun w' (hf : Fr [] w3 w') => satisfiable_calls (HI.out.fr (H3.out.fr.trans0 hf)) HCM.out HR.out hV10)
        rw [HN.out, (someB_iff (rightF_len HR.out).2.2).2 HSA.out] at HSC
        go_wp2_with fail
        refine (HSC.out _ (by (repeat first | exact Fr.refl _ _ | assumption | apply Fr.n | apply Fr.d | apply Fr.a | refine Fr.s ?_ (.inr (by simp; try omega)) _))).mono ?_
        rintro e w4 ⟨rfl, hf4⟩
        have H4 := Lib.hid (H3.out.step hf4)
        clear hf4 HSC H3
        go_wp2_with fail
        refine (HAW.out _).mono ?_
        rintro e w9 ⟨rfl, hf9⟩
        have HF9 := Lib.hid hf9
        clear hf9
        go_wp2
        go_ret
        exact ⟨rfl, H4.out.fr.trans0 HF9.out⟩
      · obtain ⟨V, rfl, hV6⟩ := rightF_nat hr
        have hV10 : V ≤ 10 := by have := HSM.out hr; omega
        rw [Int.toNat_natCast] at hlv hlen
        have hl2 := Nat.le_trans hlen (pow_ten hV10)
        have hvd := lits_valid2 hr hlv hl2
        have hpos := acc_pos hacc
        have hnum := accB_num hacc
        have hno := some_no hr (right_noz (validB_one hvd).2) hacc
        rw [List.length_map] at hnum hpos
        have HR := Lib.hid hr
        have HNUM := Lib.hid (show chkNV V cs (PV.map (·.2)) = PV.length ∧ chkEV V cs (PV.map (·.2)) = 0 from by unfold chkNV chkEV; rw [hvd]; exact hnum)
        have HNO := Lib.hid hno
        have HLV := Lib.hid hlv
        obtain ⟨m, hm⟩ : ∃ n, PV.length = n := ⟨_, rfl⟩
        have HPM := Lib.hid hm
        rw [hm] at h2 hl2 hpos HNUM ⊢
        have H2 := Lib.hid h2
        clear h2 hlen hvd hnum hno hlv hacc hm
        clear HPC
        have hb := blk_mem H2.out (b := fb) (o := .cells #[.int .i64 (V : Int), .slice a n c] 24 (0, 0)) (by simp)
        (try clear v0 v1 vl)
        have v0 : _ = some _ := heap_eq_cell hb 0
        have v1 : _ = some _ := heap_eq_cell hb 1
        have vl := lt_of_block hb
        clear hb
        have HRC := Lib.hid (fun w' (hf : Fr [] w2 w') => R40Right_calls (V := (V : Int)) (HI.out.fr (H2.out.fr.trans0 hf)))
        rw [HN.out, hr] at HRC
        clear hr
        go_wp2_with fail
        refine (HRC.out _ (by (repeat first | exact Fr.refl _ _ | assumption | apply Fr.n | apply Fr.d | apply Fr.a | refine Fr.s ?_ (.inr (by simp; try omega)) _))).mono ?_
        rintro e w3 ⟨rfl, hf3⟩
        have H3 := Lib.hid (H2.out.step hf3)
        clear hf3 HRC H2
        have hb := blk_mem H3.out (b := fb) (o := .cells #[.int .i64 (V : Int), .slice a n c] 24 (0, 0)) (by simp)
        (try clear v0 v1 vl)
        have v0 : _ = some _ := heap_eq_cell hb 0
        have v1 : _ = some _ := heap_eq_cell hb 1
        have vl := lt_of_block hb
        clear hb
        have HSC := Lib.hid (fun w' (hf : Fr [] w3 w') => satisfiable_calls (HI.out.fr (H3.out.fr.trans0 hf)) HCM.out HR.out hV10)
        rw [HN.out, HNO.out] at HSC
        go_wp2_with fail
        refine (HSC.out _ (by (repeat first | exact Fr.refl _ _ | assumption | apply Fr.n | apply Fr.d | apply Fr.a | refine Fr.s ?_ (.inr (by simp; try omega)) _))).mono ?_
        rintro e w4 ⟨rfl, hf4⟩
        have H4 := Lib.hid (H3.out.step hf4)
        clear hf4 HSC H3
        have hb := blk_mem H4.out (b := fb) (o := .cells #[.int .i64 (V : Int), .slice a n c] 24 (0, 0)) (by simp)
        (try clear v0 v1 vl)
        have v0 : _ = some _ := heap_eq_cell hb 0
        have v1 : _ = some _ := heap_eq_cell hb 1
        have vl := lt_of_block hb
        clear hb
        have hlp : ∀ r ∈ PV.map (·.2), r.length ≤ 20 := fun r hr => by
          obtain ⟨q, hq, rfl⟩ := List.mem_map.1 hr
          have := (HLV.out q hq).1
          omega
        have HLP := Lib.hid hlp
        have HCK := Lib.hid (fun w' (hf : Fr [] w4 w') => Check_calls (V := (V : Int)) (cs := cs) (p := PV.map (·.2)) (H4.out.step hf) (HFH.out.more fun P hP => by simp at hP) (under_m HPM.out hl2 HLV.out hV10) HCM.out (fun r hr => Nat.le_trans (HLP.out r hr) (by omega)))
        rw [List.length_map, HPM.out, HN.out] at HCK
        clear hlp
        go_wp2_with fail
        refine (HCK.out _ (by (repeat first | exact Fr.refl _ _ | assumption | apply Fr.n | apply Fr.d | apply Fr.a | refine Fr.s ?_ (.inr (by simp; try omega)) _))).mono ?_
        intro e w5 k5
        obtain ⟨rfl, h5⟩ := ex_num HNUM.out.1 HNUM.out.2 k5
        have H5 := Lib.hid h5
        clear k5 h5 HCK H4
        have hb := blk_mem H5.out (b := fb) (o := .cells #[.int .i64 (V : Int), .slice a n c] 24 (0, 0)) (by simp)
        (try clear v0 v1 vl)
        have v0 : _ = some _ := heap_eq_cell hb 0
        have v1 : _ = some _ := heap_eq_cell hb 1
        have vl := lt_of_block hb
        clear hb
        have hvc := owns_form2 H5.out.row
        obtain ⟨va2, vc2, hve, hvn, _⟩ := hvc
        obtain ⟨rfl, _, rfl⟩ := Value.slice.inj hve
        have hvm := owns_cap H5.out.row
        have HCK := Lib.hid (fun w' (hf : Fr [] w5 w') => RCheck_calls (V := (V : Int)) (cs := cs) (p := PV.map (·.2)) (H5.out.step hf) (HFH.out.more fun P hP => by simp at hP) HAC.out (under_m HPM.out hl2 HLV.out hV10) (fun e => (hvn e).2) (by rw [List.length_map, HPM.out]; exact hvm) HCM.out (fun r hr => Nat.le_trans (HLP.out r hr) (by omega)) (flat_two (k := 20) (m := 40) (n := 2048) HC20.out HLP.out (by rw [HN.out]; exact hc40) (by rw [List.length_map, HPM.out]; exact hl2) (by omega)))
        rw [List.length_map, HPM.out, HN.out] at HCK
        clear hve hvn hvm
        go_wp2_with fail
        refine (HCK.out _ (by (repeat first | exact Fr.refl _ _ | assumption | apply Fr.n | apply Fr.d | apply Fr.a | refine Fr.s ?_ (.inr (by simp; try omega)) _))).mono ?_
        intro e w6 k6
        obtain ⟨rfl, h6⟩ := ex_num HNUM.out.1 HNUM.out.2 k6
        have H6 := Lib.hid h6
        clear k6 h6 HCK H5
        have b1 : decide ((m : Int) > 0) = true := by simp; omega
        go_wp2_with fail
        refine (HAW.out _).mono ?_
        rintro e w9 ⟨rfl, hf9⟩
        have HF9 := Lib.hid hf9
        clear hf9
        go_wp2
        go_ret
        exact ⟨rfl, H6.out.fr.trans0 HF9.out⟩
end Go.Proofs.Ytbpaadpocihahaa
end

section
/- Drawn formulas and proofs, opened, with their room. -/
namespace Go.Proofs.Ytbpaadpocihahaa
open Go Go.ChangeShapes Go.WideShapes Go.RowKit Go.Proofs.Hp Go.Proofs.Lw Go.Proofs.Sv
set_option linter.unusedVariables false
set_option linter.unusedSimpArgs false
set_option maxRecDepth 100000 in
theorem open_formula2 {H : Type} {enc : TypeId × Value → H} {W : World} {base : Nat} {v : Value} {d : DataW H} {ps : List MemPlace} (hval : Value.okWide Try.prog W .any base 24 v)
    (h : DataW.Trod enc Try.prog W 0 (fun _ => true) true 24 v d ps) :
    ∃ (V : Int) (a : Option Addr) (c : Nat) (cs : List (List Int)), v = .agg #[.int .i64 V, .slice a cs.length c] ∧ FormAt W a c cs ∧ (a = none → c = 0) ∧ cs.length ≤ c := by
  obtain ⟨cs, rfl, hsz⟩ := okWide_struct Try.underlying24 hval
  have hs3 : cs.size = 2 := hsz.trans (by kernel_rfl)
  obtain ⟨fuel, hf⟩ := h
  obtain ⟨xs, n, rfl, _, _, hn, hf⟩ := DataW.trod_struct Try.underlying24 hf
  obtain ⟨c0, c1, rfl⟩ : ∃ c0 c1, cs = #[c0, c1] := ⟨cs[0], cs[1], by apply Array.ext <;> simp [hs3]; intro i hi; match i, hi with | 0, _ => intro _; rfl | 1, _ => intro _; rfl⟩
  have e1 : Try.prog.cellsOf 3 = 1 := by kernel_rfl
  have e2 : Try.prog.cellsOf 22 = 1 := by kernel_rfl
  have hx3 : xs.length = 2 := hn
  have h0 := hf 0 _ rfl
  have h1 := hf 1 _ rfl
  rw [List.getElem?_eq_getElem (by omega)] at h0 h1
  change DataW.trod enc Try.prog W 0 (fun _ => true) true n 3 (([c0, c1].drop 0).take (Try.prog.cellsOf 3)) = some _ at h0
  change DataW.trod enc Try.prog W 0 (fun _ => true) true n 22 (([c0, c1].drop 1).take (Try.prog.cellsOf 22)) = some _ at h1
  rw [e1] at h0
  rw [e2] at h1
  simp only [List.drop_zero, List.drop_succ_cons, List.take_succ_cons, List.take_zero] at h0 h1
  obtain ⟨s, hs, _, ws⟩ := DataW.trod_int Try.underlying3 h0
  simp only [List.cons.injEq, and_true] at hs
  subst hs
  have hf1 : ∃ a n c, c1 = .slice a n c := by
    rcases DataW.trod_slice Try.underlying22 h1 with ⟨h, _⟩ | ⟨a, len, cap, _, _, _, _, h, _⟩
    · simp only [List.cons.injEq, and_true] at h; exact ⟨_, _, _, h⟩
    · simp only [List.cons.injEq, and_true] at h; exact ⟨_, _, _, h⟩
  obtain ⟨a1, n1, k1, rfl⟩ := hf1
  obtain ⟨hlc, _, _, _, _, hnil, _⟩ := open_rows Try.underlying22 (sz := 1) (by kernel_rfl) (by omega) h1
  obtain ⟨l, rfl, hl⟩ := open_clauses h1
  exact ⟨s, a1, k1, l, rfl, hl, fun e => (hnil e).2, hlc⟩
set_option maxRecDepth 100000 in
theorem open_proof2 {H : Type} {enc : TypeId × Value → H} {W : World} {base : Nat} {v : Value} {d : DataW H} {ps : List MemPlace} (hval : Value.okWide Try.prog W .any base 22 v)
    (h : DataW.Trod enc Try.prog W 0 (fun _ => true) true 22 v d ps) :
    ∃ (a : Option Addr) (c : Nat) (l : List (List Int)), v = .slice a l.length c ∧ FormAt W a c l ∧ (a = none → c = 0) ∧ l.length ≤ c := by
  obtain ⟨a, n, c, rfl⟩ := okWide_slice Try.underlying22 hval
  obtain ⟨fuel, hf⟩ := h
  obtain ⟨hlc, _, _, _, _, hnil, _⟩ := open_rows Try.underlying22 (sz := 1) (by kernel_rfl) (by omega) hf
  obtain ⟨l, rfl, hl⟩ := open_clauses hf
  exact ⟨a, c, l, rfl, hl, fun e => (hnil e).2, hlc⟩
set_option maxRecDepth 100000 in
theorem open_clause {H : Type} {enc : TypeId × Value → H} {W : World} {base : Nat} {v : Value} {d : DataW H} {ps : List MemPlace} (hval : Value.okWide Try.prog W .any base 25 v)
    (h : DataW.Trod enc Try.prog W 0 (fun _ => true) true 25 v d ps) :
    ∃ (a : Option Addr) (c : Nat) (l : List Int), v = .slice a l.length c ∧ IntsAt W (.slice a l.length c) l ∧ l.length ≤ maxLen ∧ (a = none → c = 0) ∧ l.length ≤ c ∧ ∀ n ∈ l, i64 n := by
  obtain ⟨a0, n0, c0, rfl⟩ := okWide_slice Try.underlying25 hval
  obtain ⟨fuel, hf⟩ := h
  obtain ⟨a, c, l, he, h1, h2, h3⟩ := open_ints1 hf
  obtain ⟨rfl, rfl, rfl⟩ := Value.slice.inj he
  obtain ⟨hlc, _, _, _, _, hnil, _⟩ := open_rows Try.underlying25 (sz := 1) (by kernel_rfl) (by omega) hf
  exact ⟨a0, c0, l, rfl, h1, h3, fun e => (hnil e).2, hlc, h2⟩
end Go.Proofs.Ytbpaadpocihahaa
end
