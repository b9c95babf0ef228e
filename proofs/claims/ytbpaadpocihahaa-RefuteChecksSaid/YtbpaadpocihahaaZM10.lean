/- Own texts of this claim, part 11: no condition. -/
import Derived.Test.YtbpaadpocihahaaZM8
import Derived.Test.YtbpaadpocihahaaZM9
set_option linter.unusedVariables false
set_option linter.unusedSimpArgs false
section
/- The reference of refute: open, extended. -/
namespace Go.Proofs.Ytbpaadpocihahaa
open Go Go.RowKit Go.Proofs.Rg Go.Proofs.Mp Go.Proofs.Hp Go.Proofs.Sv Go.Proofs.Rp
set_option linter.unusedVariables false
set_option linter.unusedSimpArgs false
/-- append of a slice that is read, onto a row -/
theorem append_readsH {P : Program} {ops : Array Oper} {rest : List Oper} {o : Oper} {a : Act} {W w : World} {Ps : List Res} {Q : Exit → Act → World → Prop} (hgd : o.guard = none) {s x : Operand} {t : TypeId}
    (ho : o.op = .call { callee := .builtin .append, args := #[s, x], argTypes := #[t, t] }) {e : Nat} {z : Value} {size bytes : Nat} (ht : P.underlying t = some (.slice e)) (hinfo : (P.info? e).map (fun i => (i.zero, i.size, i.bytes)) = some (some z, size, bytes))
    (hzs : z.cells.size = size) (hsz : 0 < size) {v : Value} {n : Nat} {xs : List Value} (hs : a.eval s = v) {ad : Option Addr} {m c : Nat} {news : List Value} (hx : a.eval x = .slice ad m c)
    (h : Has W w (Hp.row e size v n xs :: Ps)) (hr : Reads w (.slice ad m c) m size news) (hz : ad = none → c = 0) (h1 : ∀ u ∈ news, u.oneCell' = true) (h63 : n + m ≤ maxLen) (hbytes : (n + m) * bytes ≤ 140737488355328)
    (hnext : ∀ v' w', Has W w' (Hp.row e size v' (n + m) (xs ++ news) :: Ps) → wpList P ops Q rest (a.put o.dst v') w') : wpList P ops Q (o :: rest) a w :=
  append_reads hgd ho (base := 0) ht hinfo hzs hsz hs h.row hx hr hz h1 h63 hbytes (Nat.zero_le _) fun v' w' hown hf hb => hnext v' w' (by
    cases hv : v'.ownBlock with
    | some g =>
      refine h.appended hown hv hf ?_
      rw [hv] at hb
      rcases hb with hb | hb
      · exact .inl hb.symm
      · right; cases hb; exact Nat.le_refl _
    | none =>
      rw [hv] at hb
      have hv0 : v.ownBlock = none := by
        rcases hb with hb | hb
        · exact hb.symm
        · cases hb
      exact h.turn fun F ⟨a1, a2⟩ => ⟨[], ⟨hown, by rw [hv]; rfl⟩, by rw [a2]; exact hf, fun x hx => by simp at hx⟩)
theorem res_cell1 {fn : Func} {p : Tmp} {ty : TypeId} (h : fn.results = #[.cell p ty]) (tmps : Array Value) (P : Program) (w : World) :
    (results fn tmps).run P w = ((asAddr (tmps.getD p undef)).run P w).andThen fun a w₁ => (loadVar ty a).run P w₁ := by
  simp only [results, h]
  simp [Sem.run_bind, Result.andThen]
theorem form_result {fn : Func} {p : Tmp} (h : fn.results = #[.cell p 24]) {tmps : Array Value} {b : Nat} {w' : World} {x y : Value} (h4 : tmps.getD p undef = .pointer (some ⟨b, 0, none⟩)) (hb : w'.heap[b]? = some (.cells #[x, y] 24 (0, 0))) :
    (results fn tmps).run Try.prog w' = .ok (.agg #[x, y]) w' := by
  rw [res_cell1 h, h4]
  simp only [asAddr, Sem.run_pure, Result.andThen]
  rw [run_loadVar_row w' b _ _ _ _ _ hb Try.underlying24 rfl (by kernel_rfl)]
/-- two lists of clauses, one behind the other, in a row -/
theorem FormHs.both {W : World} {Ps : List Res} {a : Option Addr} {c : Nat} {vs : List Value} {cs : List (List Int)} (h : FormHs W Ps a c vs cs) {pa : Option Addr} {pc : Nat} {pvs : List Value} {p : List (List Int)} (hp : FormHs W Ps pa pc pvs p) (hvl : vs.length = cs.length)
    {va : Option Addr} {vc n : Nat} (hn : n = cs.length + p.length) (hn6 : n ≤ 9223372036854775807) :
    FormHs W (Hp.row 25 1 (.slice va n vc) n (vs ++ pvs) :: Ps) va vc (vs ++ pvs) (cs ++ p) := by
  have hlen : (cs ++ p).length = n := by rw [List.length_append, hn]
  refine ⟨fun w Qs hw hP => ?_, by rw [hlen]; exact hn6, fun r hr => ?_⟩
  · rw [hlen]
    obtain ⟨Q1, h1⟩ := has_mem hw (hP (Hp.row 25 1 (.slice va n vc) n (vs ++ pvs)) (by simp))
    have h3 := (h.1 w Qs hw fun P hp => hP P (by simp [hp])).2
    have h4 := (hp.1 w Qs hw fun P hp => hP P (by simp [hp])).2
    refine ⟨h1.rowReads, fun i r hi => ?_⟩
    by_cases hic : i < cs.length
    · rw [List.getElem?_append_left hic] at hi
      obtain ⟨u, hu, hr⟩ := h3 i r hi
      exact ⟨u, by rw [List.getElem?_append_left (by omega)]; exact hu, hr⟩
    · rw [List.getElem?_append_right (by omega)] at hi
      obtain ⟨u, hu, hr⟩ := h4 _ r hi
      exact ⟨u, by rw [List.getElem?_append_right (by omega), hvl]; exact hu, hr⟩
  · rcases List.mem_append.1 hr with hr | hr
    · exact h.2.2 r hr
    · exact hp.2.2 r hr
theorem FormHs.vlen {W : World} {Ps : List Res} {a : Option Addr} {c : Nat} {vs : List Value} {cs : List (List Int)} (h : FormHs W Ps a c vs cs) {w : World} (hw : Has W w Ps) : vs.length = cs.length := by
  have := (h.1 w Ps hw fun P hP => hP).1.1
  omega
theorem FormHs.vone {W : World} {Ps : List Res} {a : Option Addr} {c : Nat} {vs : List Value} {cs : List (List Int)} (h : FormHs W Ps a c vs cs) {w : World} (hw : Has W w Ps) : ∀ u ∈ vs, u.oneCell' = true := fun u hu => by
  have hl := h.vlen hw
  obtain ⟨i, hi, rfl⟩ := List.getElem_of_mem hu
  obtain ⟨u2, hu2, hr⟩ := (h.1 w Ps hw fun P hP => hP).2 i (cs[i]'(by omega)) (List.getElem?_eq_getElem (by omega))
  rw [List.getElem?_eq_getElem hi] at hu2
  obtain ⟨a', c', e⟩ := hr.form
  rw [← Option.some.inj hu2] at e
  rw [e]; rfl
set_option maxHeartbeats 4000000 in
theorem open_calls {w : World} {a : Option Addr} {c : Nat} {l : List Int} (h : IntsAt w (.slice a l.length c) l) (hl : l.length ≤ 1000000) (hV : ∀ x ∈ l, x ≠ 0 ∧ x.natAbs ≤ 65536) {b : Option Addr} {d : Nat} {all : List Int} (hb : IntsAt w (.slice b all.length d) all) (hal : all.length ≤ 9000000) :
    Calls Try.prog 53 #[.slice a l.length c, .slice b all.length d] w fun e w' => w' = w ∧ ∃ (k : Nat) (last : Int), e = .returned (.tuple #[.int .i64 (k : Int), .int .i64 last]) ∧ OpenR l all k last := by
  have HI := Lib.hid h
  have HV := Lib.hid hV
  have HH := Lib.hid (fun x => has43_calls (x := x) hb hal)
  obtain ⟨n, hn⟩ : ∃ n, l.length = n := ⟨_, rfl⟩
  rw [hn] at hl ⊢
  have HN := Lib.hid hn
  clear h hn hV hb hal
  go_enter Try.func53, Try.ntmps53
  go_wp2
  go_loopg [6, 7, 8] n (fun gg z6 z7 z8 wr => ∃ (i k : Nat) (last : Int), i ≤ n ∧ k ≤ i ∧ n - i ≤ gg ∧ z6 = .int .i64 (k : Int) ∧ z7 = .int .i64 last ∧ z8 = .int .i64 (i : Int) ∧ wr = w ∧ Hid (OpenI (l.take i) all k last))
  case atStart => exact ⟨0, 0, 0, Nat.zero_le _, Nat.zero_le _, by omega, rfl, rfl, rfl, rfl, Lib.hid ⟨by simp, .inl ⟨rfl, rfl, by simp⟩⟩⟩
  case round =>
    obtain ⟨i, k, last, hi, hk, hg, rfl, rfl, rfl, rfl, HA⟩ := hrel
    by_cases hin : i < n
    · obtain ⟨y, hy⟩ : ∃ y, l[i]? = some y := ⟨_, List.getElem?_eq_getElem (by rw [HN.out]; exact hin)⟩
      have hI := HI.out
      obtain ⟨g, off, rfl, hgl, hc⟩ := IntsAt.get hI hy
      have hyV := HV.out y (List.mem_of_getElem? hy)
      have hw1 : IntKind.i64.wrap (-y) = -y := IntWalk.i64_in _ (by omega)
      have htk : l.take (i + 1) = l.take i ++ [y] := by rw [List.take_add_one, hy]; rfl
      have HTK := Lib.hid htk
      have HY := Lib.hid hy
      have HY0 := Lib.hid hyV.1
      obtain ⟨b1, hb1⟩ : ∃ b, all.contains y = b := ⟨_, rfl⟩
      have HB1 := Lib.hid hb1
      obtain ⟨b2, hb2⟩ : ∃ b, all.contains (-y) = b := ⟨_, rfl⟩
      have HB2 := Lib.hid hb2
      clear hI hy htk hyV hb1 hb2
      go_wp2_with fail
      refine (HH.out y).mono ?_
      rw [HB1.out]
      rintro e w2 ⟨rfl, hw2⟩
      subst hw2
      cases b1 with
      | true =>
        go_wp2
        go_ret2
        exact ⟨rfl, 2, 0, rfl, .inl ⟨rfl, y, List.mem_of_getElem? HY.out, by simpa using HB1.out⟩⟩
      | false =>
        have hny : y ∉ all := fun e => by have := HB1.out; rw [List.contains_iff_mem.2 e] at this; cases this
        have HNY := Lib.hid hny
        clear hny
        go_wp2_with fail
        refine (HH.out (-y)).mono ?_
        rw [HB2.out]
        rintro e w3 ⟨rfl, hw3⟩
        subst hw3
        cases b2 with
        | true =>
          go_wp2
          go_roundg (n - (i + 1))
          case measure => omega
          case rel => exact ⟨i + 1, k, last, hin, by omega, Nat.le_refl _, rfl, rfl, by simp, rfl, Lib.hid (by rw [HTK.out]; exact HA.out.skip HNY.out (by simpa using HB2.out))⟩
        | false =>
          have hny : -y ∉ all := fun e => by have := HB2.out; rw [List.contains_iff_mem.2 e] at this; cases this
          have HNN := Lib.hid hny
          clear hny
          by_cases hyl : y = last
          · have hbl : (y != last) = false := by simpa using hyl
            go_wp2
            go_roundg (n - (i + 1))
            case measure => omega
            case rel =>
              refine ⟨i + 1, k, last, hin, by omega, Nat.le_refl _, rfl, rfl, by simp, rfl, Lib.hid ?_⟩
              rw [HTK.out]
              have h1 := HNY.out
              have h2 := HNN.out
              have h3 := HY0.out
              rw [hyl] at h1 h2 h3 ⊢
              exact HA.out.same h1 h2 h3
          · have hbl : (y != last) = true := by simpa using hyl
            go_wp2
            go_roundg (n - (i + 1))
            case measure => omega
            case rel => exact ⟨i + 1, k + 1, y, hin, by omega, Nat.le_refl _, by simp, rfl, by simp, rfl, Lib.hid (by rw [HTK.out]; exact HA.out.next HNY.out HNN.out hyl)⟩
    · obtain rfl : i = n := by omega
      have h2 := HA.out
      rw [List.take_of_length_le (by rw [HN.out]; exact Nat.le_refl _)] at h2
      have H2 := Lib.hid h2.min
      clear h2 HA
      go_wp2
      go_ret2
      exact ⟨rfl, min k 2, last, by simp; omega, H2.out⟩
end Go.Proofs.Ytbpaadpocihahaa
end

section
/- The reference of refute: extended, follows. -/
namespace Go.Proofs.Ytbpaadpocihahaa
open Go Go.RowKit Go.Proofs.Rg Go.Proofs.Mp Go.Proofs.Hp Go.Proofs.Sv Go.Proofs.Rp
set_option linter.unusedVariables false
set_option linter.unusedSimpArgs false
set_option maxHeartbeats 4000000 in
theorem extended_calls {W w : World} {Ps : List Res} (h : Has W w Ps) {V : Int} {a : Option Addr} {c : Nat} {vs : List Value} {cs : List (List Int)} (hF : FormHs W Ps a c vs cs) (ha : a = none → c = 0) {pa : Option Addr} {pc : Nat} {pvs : List Value} {p : List (List Int)} (hP : FormHs W Ps pa pc pvs p) (hpa : pa = none → pc = 0)
    (hl : cs.length ≤ 1000000) (hpl : p.length ≤ 1000000) :
    Calls Try.prog 52 #[.agg #[.int .i64 V, .slice a cs.length c], .slice pa p.length pc] w fun e w' => ∃ va vc, e = .returned (.agg #[.int .i64 V, .slice va (cs.length + p.length) vc]) ∧
      Has W w' (Hp.row 25 1 (.slice va (cs.length + p.length) vc) (cs.length + p.length) (vs ++ pvs) :: Ps) := by
  have hmaxl : (2000001 : Nat) ≤ maxLen := by decide
  have HV1 := Lib.hid (hF.vone h)
  have HV2 := Lib.hid (hP.vone h)
  have h1 := ((h.newBlk (.cells #[.int .i64 V, .slice a cs.length c] 24 (0, 0))).newBlk (.cells #[.int .i64 0, .slice none 0 0] 24 (0, 0))).newBlk (.cells #[.int .i64 V, .slice none 0 0] 24 (0, 0))
  simp only [hp_alloc_size] at h1
  have H1 := Lib.hid ((h1.nilRow 25 1).ord 4 [0, 1, 2, 3])
  have HF := Lib.hid hF
  have HP := Lib.hid hP
  have HA := Lib.hid ha
  have HPA := Lib.hid hpa
  obtain ⟨n, hn⟩ : ∃ n, cs.length = n := ⟨_, rfl⟩
  obtain ⟨m, hm⟩ : ∃ m, p.length = m := ⟨_, rfl⟩
  have HRA := Lib.hid (fun w' (hf : Fr [] w w') => (hF.1 w' Ps (h.step hf) fun P hP => hP).1)
  have HRP := Lib.hid (fun w' Qs (hw : Has W w' Qs) (hs : ∀ P ∈ Ps, P ∈ Qs) => (hP.1 w' Qs hw hs).1)
  rw [hn] at hl H1 HRA ⊢
  rw [hm] at hpl HRP ⊢
  have HLL := Lib.hid (show 0 + n ≤ maxLen ∧ (0 + n) * 24 ≤ 140737488355328 ∧ n + m ≤ maxLen ∧ (n + m) * 24 ≤ 140737488355328 from by omega)
  clear h h1 hF hP hn hm ha hpa hmaxl HF HP
  go_enter Try.func52, Try.ntmps52
  go_wp2_with (at_builtin; refine append_readsH (W := W) (size := 1) (bytes := 24) (z := .slice none 0 0) (e := 25) (n := 0) (m := n) (xs := []) (news := vs) rfl rfl Try.underlying22 (by kernel_rfl) rfl (by decide) rfl rfl (H1.out.step (by (repeat first | exact Fr.refl _ _ | assumption | apply Fr.n | apply Fr.d | apply Fr.a | refine Fr.s ?_ (.inr (by simp; try omega)) _))) (HRA.out _ (by (repeat first | exact Fr.refl _ _ | assumption | apply Fr.n | apply Fr.d | apply Fr.a | refine Fr.s ?_ (.inr (by simp; try omega)) _))) HA.out HV1.out HLL.out.1 HLL.out.2.1 ?_)
  intro v1 w1 h2
  (try rw [Nat.zero_add] at h2)
  (try rw [List.nil_append] at h2)
  obtain ⟨va, vc, rfl, _, _⟩ := owns_form2 h2.row
  obtain ⟨fb, hfb⟩ : ∃ b, w.heap.size = b := ⟨_, rfl⟩
  rw [hfb] at h2 ⊢
  obtain ⟨ob, hob⟩ : ∃ b, fb + 1 = b := ⟨_, rfl⟩
  rw [hob] at h2 ⊢
  obtain ⟨xb, hxb⟩ : ∃ b, ob + 1 = b := ⟨_, rfl⟩
  rw [hxb] at h2 ⊢
  have hb := (h2.bring 1).blk
  have x0 : _ = some _ := heap_eq_cell hb 0
  have x1 : _ = some _ := heap_eq_cell hb 1
  have xz1 := heap_eq_frozen hb 1
  have xl := lt_of_block hb
  have hb := (h2.bring 2).blk
  have o0 : _ = some _ := heap_eq_cell hb 0
  have o1 : _ = some _ := heap_eq_cell hb 1
  have oz0 := heap_eq_frozen hb 0
  have oz1 := heap_eq_frozen hb 1
  have ol := lt_of_block hb
  have hxo : xb ≠ ob := (h2.ord 3 [1, 2]).bb
  have H2 := Lib.hid h2
  have H3 := Lib.hid ((h2.bring 1).blkSet 1 (.slice va n vc))
  clear h2 hb H1 HRA hfb hob hxb
  go_wp2_with (at_builtin; refine append_readsH (W := W) (size := 1) (bytes := 24) (z := .slice none 0 0) (e := 25) (n := n) (m := m) (xs := vs) (news := pvs) rfl rfl Try.underlying22 (by kernel_rfl) rfl (by decide) rfl rfl ((H3.out.bring 1).step (by (repeat first | exact Fr.refl _ _ | assumption | apply Fr.n | apply Fr.d | apply Fr.a | refine Fr.s ?_ (.inr (by simp; try omega)) _))) (HRP.out _ _ (H3.out.step (by (repeat first | exact Fr.refl _ _ | assumption | apply Fr.n | apply Fr.d | apply Fr.a | refine Fr.s ?_ (.inr (by simp; try omega)) _))) (fun P hP => by simp [hP])) HPA.out HV2.out HLL.out.2.2.1 HLL.out.2.2.2 ?_)
  intro v2 w2 h4
  obtain ⟨va2, vc2, rfl, _, _⟩ := owns_form2 h4.row
  clear x0 x1 xz1 xl o0 o1 oz0 oz1 ol
  have hb := (h4.bring 1).blk
  have x0 : _ = some _ := heap_eq_cell hb 0
  have x1 : _ = some _ := heap_eq_cell hb 1
  have xz1 := heap_eq_frozen hb 1
  have xl := lt_of_block hb
  have hb := (h4.bring 2).blk
  have o0 : _ = some _ := heap_eq_cell hb 0
  have o1 : _ = some _ := heap_eq_cell hb 1
  have oz0 := heap_eq_frozen hb 0
  have oz1 := heap_eq_frozen hb 1
  have ol := lt_of_block hb
  have H4 := Lib.hid h4
  clear h4 hb H2 H3
  go_wp2
  (try simp only [Exit.inBlock, Exit.then])
  have h5 := ((((H4.out.bring 1).blkSet 1 (.slice va2 (n + m) vc2)).bring 2).blkSet 0 (.int .i64 V)).blkSet 1 (.slice va2 (n + m) vc2)
  refine bodyPost_ret (form_result rfl (b := ob) (x := .int .i64 V) (y := .slice va2 (n + m) vc2) rfl ?_) rfl ⟨va2, vc2, rfl, ?_⟩
  · exact (h5.step (by (repeat first | exact Fr.refl _ _ | assumption | apply Fr.n | apply Fr.d | apply Fr.a | refine Fr.s ?_ (.inr (by simp; try omega)) _))).blk
  · exact (h5.ord 4 [2]).step (by (repeat first | exact Fr.refl _ _ | assumption | apply Fr.n | apply Fr.d | apply Fr.a | refine Fr.s ?_ (.inr (by simp; try omega)) _))
end Go.Proofs.Ytbpaadpocihahaa
end

section
/- The reference of refute: follows. -/
namespace Go.Proofs.Ytbpaadpocihahaa
open Go Go.RowKit Go.Proofs.Rg Go.Proofs.Mp Go.Proofs.Hp Go.Proofs.Sv Go.Proofs.Rp
set_option linter.unusedVariables false
set_option linter.unusedSimpArgs false
def Settled (C all : List Int) : Prop := (∃ y ∈ C, y ∈ all) ∨ ∃ y ∈ C, ∃ z ∈ C, y ≠ z ∧ -y ∉ all ∧ -z ∉ all
theorem contraB_iff {l : List Int} : contraB l = true ↔ ∃ x, x ∈ l ∧ -x ∈ l := by
  unfold contraB
  rw [List.any_eq_true]
  simp only [List.contains_iff_mem]
theorem fol_closed {F : List (List Int)} {A all : List Int} (hA : ∀ x ∈ A, x ∈ all) (hD : ∀ x ∈ all, Der F A x) (hS : ∀ C ∈ F, Settled C all) : contraB all = true ↔ Cnf F A := by
  constructor
  · intro h
    obtain ⟨x, h1, h2⟩ := contraB_iff.1 h
    exact .inl ⟨x, hD _ h1, hD _ h2⟩
  · intro h
    cases hc : contraB all with
    | true => rfl
    | false =>
      exfalso
      have hno : ∀ x, x ∈ all → -x ∉ all := fun x h1 h2 => by rw [contraB_iff.2 ⟨x, h1, h2⟩] at hc; cases hc
      have hu : Unit (· ∈ all) F := by
        intro C hC x hx ho
        rcases hS C hC with ⟨y, hy, hya⟩ | ⟨y, hy, z, hz, hyz, hny, hnz⟩
        · by_cases e : y = x
          · rw [← e]; exact hya
          · exact absurd (ho y hy e) (hno y hya)
        · by_cases e : y = x
          · exact absurd (ho z hz fun e2 => hyz (e.trans e2.symm)) hnz
          · exact absurd (ho y hy e) hny
      rcases (cnf_closed hA hD hu).1 h with ⟨x, h1, h2⟩ | h1
      · exact hno x h1 h2
      · rcases hS [] h1 with ⟨y, hy, _⟩ | ⟨y, hy, _⟩ <;> cases hy
theorem OpenR.two {C all : List Int} {last : Int} (h : OpenR C all 2 last) : Settled C all := by
  rcases h with ⟨_, h⟩ | ⟨_, _, h⟩
  · exact .inl h
  · rcases h with ⟨h, _⟩ | ⟨h, _⟩ | ⟨_, _, _, h⟩
    · cases h
    · cases h
    · exact .inr h
theorem OpenR.zero {C all : List Int} {last : Int} (h : OpenR C all 0 last) : ∀ y ∈ C, -y ∈ all := by
  rcases h with ⟨h, _⟩ | ⟨_, _, h⟩
  · cases h
  · rcases h with ⟨_, _, h⟩ | ⟨h, _⟩ | ⟨h, _⟩
    · exact h
    · cases h
    · omega
theorem OpenR.one {C all : List Int} {last : Int} (h : OpenR C all 1 last) : last ∈ C ∧ last ∉ all ∧ ∀ y ∈ C, y ≠ last → -y ∈ all := by
  rcases h with ⟨h, _⟩ | ⟨_, h1, h⟩
  · cases h
  · rcases h with ⟨h, _⟩ | ⟨_, h2, _, h3⟩ | ⟨h, _⟩
    · cases h
    · exact ⟨h2, h1 _ h2, h3⟩
    · omega
theorem OpenR.le {C all : List Int} {k : Nat} {last : Int} (h : OpenR C all k last) : k ≤ 2 := by
  rcases h with ⟨h, _⟩ | ⟨h, _⟩ <;> omega
theorem leftN_app {F : List (List Int)} {all : List Int} {x : Int} (h1 : x ∈ F.flatten) (h2 : x ∉ all) : leftN F (all ++ [x]) < leftN F all := by
  have : leftN F (all ++ [x]) = leftN F (x :: all) := by
    unfold leftN
    congr 1
    refine List.filter_congr fun y _ => ?_
    rw [Bool.eq_iff_iff]
    simp
    exact And.comm
  rw [this]
  exact leftN_lt h1 h2
/-- what holds while all grows -/
structure FolI (F : List (List Int)) (A all : List Int) : Prop where
  sub : ∀ x ∈ A, x ∈ all
  der : ∀ x ∈ all, Der F A x
  len : all.length + leftN F all ≤ A.length + F.flatten.length
  lit : ∀ x ∈ all, x ≠ 0 ∧ x.natAbs ≤ 65536
theorem FolI.grow {F : List (List Int)} {A all C : List Int} {last : Int} (h : FolI F A all) (hC : C ∈ F) (ho : OpenR C all 1 last) (hV : ∀ x ∈ C, x ≠ 0 ∧ x.natAbs ≤ 65536) : FolI F A (all ++ [last]) ∧ leftN F (all ++ [last]) < leftN F all := by
  obtain ⟨h1, h2, h3⟩ := ho.one
  have hl := leftN_app (F := F) (List.mem_flatten.2 ⟨C, hC, h1⟩) h2
  refine ⟨⟨fun x hx => by simp [h.sub x hx], fun x hx => ?_, ?_, fun x hx => ?_⟩, hl⟩
  · rcases List.mem_append.1 hx with hx | hx
    · exact h.der x hx
    · simp at hx; rw [hx]
      exact .unit hC h1 fun y hy hne => h.der _ (h3 y hy hne)
  · have := h.len
    rw [List.length_append, List.length_singleton]
    omega
  · rcases List.mem_append.1 hx with hx | hx
    · exact h.lit x hx
    · simp at hx; rw [hx]; exact hV _ h1
theorem FolI.start {F : List (List Int)} {A : List Int} (hA : ∀ x ∈ A, x ≠ 0 ∧ x.natAbs ≤ 65536) : FolI F A A := ⟨fun x h => h, fun x h => .asm h, by
  have : leftN F A ≤ F.flatten.length := List.length_filter_le _ _
  omega, hA⟩
end Go.Proofs.Ytbpaadpocihahaa
end

section
/- The reference of refute: follows, walked. -/
namespace Go.Proofs.Ytbpaadpocihahaa
open Go Go.RowKit Go.Proofs.Rg Go.Proofs.Mp Go.Proofs.Hp Go.Proofs.Sv Go.Proofs.Rp
set_option linter.unusedVariables false
set_option linter.unusedSimpArgs false
set_option maxHeartbeats 8000000 in
set_option maxRecDepth 100000 in
theorem Rfollows_calls {W w : World} {Ps : List Res} (h : Has W w Ps) {V : Nat} (hV : V ≤ 65536) {a : Option Addr} {c : Nat} {vs : List Value} {cs : List (List Int)} (hF : FormHs W Ps a c vs cs) (ha : a = none → c = 0) {pa : Option Addr} {pc : Nat} {pvs : List Value} {p : List (List Int)} (hP : FormHs W Ps pa pc pvs p) (hpa : pa = none → pc = 0)
    {ca : Option Addr} {cc : Nat} {r : List Int} (hC : IntsSrc W Ps ca cc r) (hcl : cs.length ≤ 300000) (hpl : p.length ≤ 300000) (hrl : r.length ≤ 1000000) (hfl : (cs ++ p).flatten.length ≤ 7000000) (hs : ∀ q ∈ cs ++ p, q.length ≤ 1000000) (hL : Lits V (cs ++ p)) (hr : ∀ x ∈ r, x ≠ 0 ∧ x.natAbs ≤ V) :
    Calls Try.prog 32 #[.agg #[.int .i64 (V : Int), .slice a cs.length c], .slice pa p.length pc, .slice ca r.length cc] w fun e w' => e = .returned (.bool (folB (cs ++ p) r)) ∧ Has W w' Ps := by
  have hvl := hF.vlen h
  have H0 := Lib.hid (h.newBlk (.cells #[.int .i64 (V : Int), .slice a cs.length c] 24 (0, 0)))
  have HC := Lib.hid hC
  have HF := Lib.hid hF
  have HP := Lib.hid hP
  have HA := Lib.hid (And.intro ha hpa)
  have HS := Lib.hid hs
  have HL := Lib.hid hL
  have HR := Lib.hid hr
  have HFL := Lib.hid hfl
  have HVL := Lib.hid hvl
  obtain ⟨F, hFe⟩ : ∃ F, cs ++ p = F := ⟨_, rfl⟩
  rw [hFe] at HS HL HFL ⊢
  have HFE := Lib.hid hFe
  have hnF : F.length = cs.length + p.length := by rw [← hFe, List.length_append]
  have HNF := Lib.hid hnF
  have hn6 : cs.length + p.length ≤ 600000 := by omega
  obtain ⟨n1, hn1⟩ : ∃ n, cs.length = n := ⟨_, rfl⟩
  obtain ⟨n2, hn2⟩ : ∃ n, p.length = n := ⟨_, rfl⟩
  obtain ⟨m, hm⟩ : ∃ n, r.length = n := ⟨_, rfl⟩
  have HNN := Lib.hid (And.intro hn1 (And.intro hn2 hm))
  rw [hn1] at hcl H0 hn6 ⊢
  rw [hn2] at hpl hn6 ⊢
  rw [hm] at hrl ⊢
  clear h hC hF hP ha hpa hs hL hr hfl hvl hFe hnF hn1 hn2 hm
  go_enter Try.func32, Try.ntmps32
  go_wp2_with fail
  have HNG := Lib.hid (negated_calls H0.out (HC.out.more fun P hP => List.mem_cons_of_mem _ hP) (by rw [HNN.out.2.2]; exact hrl))
  rw [HNN.out.2.2] at HNG
  refine HNG.out.mono ?_
  rintro e w1 ⟨va, vc, rfl, h1⟩
  clear HNG
  have hng : negW r = neg r := negW_neg hV HR.out
  rw [hng] at h1
  obtain ⟨A, hA⟩ : ∃ A, neg r = A := ⟨_, rfl⟩
  rw [hA] at h1
  have hAl : A.length = m := by rw [← hA, neg_length, HNN.out.2.2]
  have hAV : ∀ x ∈ A, x ≠ 0 ∧ x.natAbs ≤ 65536 := fun x hx => by
    rw [← hA] at hx
    have := neg_V HR.out x hx
    omega
  have HAA := Lib.hid (And.intro hA (And.intro hAl hAV))
  rw [← hAl] at h1
  obtain ⟨fb, hfb⟩ : ∃ b, w.heap.size = b := ⟨_, rfl⟩
  rw [hfb] at h1 ⊢
  have hb := (h1.bring 1).blk
  have f0 : _ = some _ := heap_eq_cell hb 0
  have f1 : _ = some _ := heap_eq_cell hb 1
  have fl := lt_of_block hb
  have H1 := Lib.hid h1
  have HX := Lib.hid (fun w' (hf : Fr [] w1 w') => extended_calls (V := (V : Int)) (h1.step hf) (HF.out.more fun P hP => by simp [hP]) HA.out.1 (HP.out.more fun P hP => by simp [hP]) HA.out.2 (by rw [HNN.out.1]; omega) (by rw [HNN.out.2.1]; omega))
  rw [HNN.out.1, HNN.out.2.1] at HX
  clear h1 hb hfb H0 hng hA hAV
  go_wp2_with fail
  refine (HX.out _ (by (repeat first | exact Fr.refl _ _ | assumption | apply Fr.n | apply Fr.d | apply Fr.a | refine Fr.s ?_ (.inr (by simp; try omega)) _))).mono ?_
  rintro e w2 ⟨ua, uc, rfl, h2⟩
  have h3 := (h2.newBlk (.cells #[.int .i64 (V : Int), .slice ua (n1 + n2) uc] 24 (0, 0))).ord 4 [2, 0, 1]
  obtain ⟨xb, hxb⟩ : ∃ b, w2.heap.size = b := ⟨_, rfl⟩
  have HH := FormHs.both HF.out HP.out HVL.out (va := ua) (vc := uc) (n := n1 + n2) (by rw [HNN.out.1, HNN.out.2.1]) (by omega)
  rw [HFE.out] at HH
  have HFH := Lib.hid HH
  have H3 := Lib.hid h3
  clear h2 h3 HX H1 f0 f1 fl HH
  go_wp2
  rw [hxb] at H3
  rw [hAl] at H3
  obtain ⟨n, hn⟩ : ∃ n, n1 + n2 = n := ⟨_, rfl⟩
  have HNT := Lib.hid (show F.length = n from by rw [HNF.out, HNN.out.1, HNN.out.2.1, hn])
  have hn7 : n ≤ 600000 := by omega
  rw [hn] at H3 HFH ⊢
  clear hn hcl hpl hxb hAl hn6
  have hll := HAA.out.2.1
  have HM0 := Lib.hid (show 2 * leftN F A + 1 ≤ 2 * F.flatten.length + 1 from by have : leftN F A ≤ F.flatten.length := List.length_filter_le _ _; omega)
  clear hll
  go_loopg [7, 9] (2 * F.flatten.length + 1) (fun gg z7 z9 wr => ∃ (all : List Int) (k : Nat) (va : Option Addr) (vc : Nat) (b : Bool), z7 = .slice va k vc ∧ z9 = .bool b ∧ 2 * leftN F all + b.toNat ≤ gg ∧ k ≤ 8000000 ∧ Hid (all.length = k ∧ FolI F A all ∧ (b = false → ∀ C ∈ F, Settled C all)) ∧ Hid (Has W wr (Hp.row 3 1 (.slice va k vc) k (iv all) :: Hp.blk xb (.cells #[.int .i64 (V : Int), .slice ua n uc] 24 (0, 0)) :: Hp.row 25 1 (.slice ua n uc) n (vs ++ pvs) :: Ps)))
  case atStart => exact ⟨A, m, va, vc, true, rfl, rfl, HM0.out, by omega, Lib.hid ⟨HAA.out.2.1, FolI.start HAA.out.2.2, fun e => by cases e⟩, Lib.hid (H3.out.step (by (repeat first | exact Fr.refl _ _ | assumption | apply Fr.n | apply Fr.d | apply Fr.a | refine Fr.s ?_ (.inr (by simp; try omega)) _)))⟩
  case round =>
    obtain ⟨all, k, va, vc, b, rfl, rfl, hgg, hk8, HI, HH⟩ := hrel
    clear H3 HM0
    cases b with
    | false =>
      have hfin := fol_closed HI.out.2.1.sub HI.out.2.1.der (HI.out.2.2 rfl)
      have hcon : contraB all = folB F r := by
        rw [Bool.eq_iff_iff, hfin, folB_iff, HAA.out.1]
      have hia : IntsAt wr (.slice va all.length vc) all := by
        have := HH.out.rowReads
        rw [← HI.out.1] at this
        exact this
      have HCO := Lib.hid (contradicts_calls hia (by rw [HI.out.1]; omega) (fun x hx => (HI.out.2.1.lit x hx).2))
      rw [HI.out.1, hcon] at HCO
      obtain ⟨q, hq⟩ : ∃ q, folB F r = q := ⟨_, rfl⟩
      rw [hq] at HCO
      have HQ := Lib.hid hq
      clear hfin hcon hia hq
      go_wp2_with fail
      refine HCO.out.mono ?_
      rintro e w3 ⟨rfl, hw3⟩
      subst hw3
      go_wp2
      go_ret
      exact ⟨by rw [HQ.out]; rfl, HH.out.drop.drop.drop.step (by (repeat first | exact Fr.refl _ _ | assumption | apply Fr.n | apply Fr.d | apply Fr.a | refine Fr.s ?_ (.inr (by simp; try omega)) _))⟩
    | true =>
      go_wp2
      go_loopg [7, 9, 10] n (fun g2 z7 z9 z10 wr => ∃ (i : Nat) (all2 : List Int) (k2 : Nat) (va2 : Option Addr) (vc2 : Nat) (b2 : Bool), i ≤ n ∧ n - i ≤ g2 ∧ z7 = .slice va2 k2 vc2 ∧ z9 = .bool b2 ∧ z10 = .int .i64 (i : Int) ∧ 2 * leftN F all2 + b2.toNat < 2 * leftN F all + 1 ∧ k2 ≤ 8000000 ∧ Hid (all2.length = k2 ∧ FolI F A all2 ∧ (b2 = false → ∀ (j : Nat) C, j < i → F[j]? = some C → Settled C all2)) ∧ Hid (Has W wr (Hp.row 3 1 (.slice va2 k2 vc2) k2 (iv all2) :: Hp.blk xb (.cells #[.int .i64 (V : Int), .slice ua n uc] 24 (0, 0)) :: Hp.row 25 1 (.slice ua n uc) n (vs ++ pvs) :: Ps)))
      case atStart => exact ⟨0, all, k, va, vc, false, Nat.zero_le _, by omega, rfl, rfl, rfl, by simp, hk8, Lib.hid ⟨HI.out.1, HI.out.2.1, fun _ j C hj => by omega⟩, Lib.hid (HH.out.step (by (repeat first | exact Fr.refl _ _ | assumption | apply Fr.n | apply Fr.d | apply Fr.a | refine Fr.s ?_ (.inr (by simp; try omega)) _)))⟩
      case round =>
        obtain ⟨i, all2, k2, va2, vc2, b2, hi, hg2, rfl, rfl, rfl, hms, hk2, HJ, HK⟩ := hrel
        clear HH
        have hb := (HK.out.bring 1).blk
        have x1 : _ = some _ := heap_eq_cell hb 1
        have xl := lt_of_block hb
        clear hb
        by_cases hin : i < n
        · obtain ⟨C, hCi⟩ : ∃ C, F[i]? = some C := ⟨_, List.getElem?_eq_getElem (by rw [HNT.out]; exact hin)⟩
          obtain ⟨ra, rc, g, off, hua, hgl, hc, hsrc⟩ := HFH.out.row HK.out (fun P hP => by
            rcases List.mem_cons.1 hP with e | e
            · simp [e]
            · simp [e]) hCi
          subst hua
          have hCm := List.mem_of_getElem? hCi
          have hia : IntsAt wr (.slice va2 all2.length vc2) all2 := by
            have := HK.out.rowReads
            rw [← HJ.out.1] at this
            exact this
          have hib := hsrc _ _ HK.out (fun P hP => by
            rcases List.mem_cons.1 hP with e | e
            · simp [e]
            · simp [e])
          have HOP := Lib.hid (open_calls hib (HS.out C hCm) (fun x hx => by have := HL.out C hCm x hx; omega) hia (by rw [HJ.out.1]; omega))
          rw [HJ.out.1] at HOP
          have HCI := Lib.hid hCi
          clear hCi hCm hia hib hsrc
          go_wp2_with fail
          refine HOP.out.mono ?_
          rintro e w3 ⟨hw3, kk, last, rfl, hor⟩
          subst hw3
          have hle := hor.le
          have HOR := Lib.hid hor
          clear hor HOP
          obtain rfl | rfl | rfl : kk = 0 ∨ kk = 1 ∨ kk = 2 := by omega
          · have HT := Lib.hid (show folB F r = true from by
              rw [folB_iff, HAA.out.1]
              exact Cnf.of_bad (List.mem_of_getElem? HCI.out) fun y hy => HJ.out.2.1.der _ (HOR.out.zero y hy))
            go_wp2
            go_ret
            exact ⟨by rw [HT.out]; rfl, HK.out.drop.drop.drop.step (by (repeat first | exact Fr.refl _ _ | assumption | apply Fr.n | apply Fr.d | apply Fr.a | refine Fr.s ?_ (.inr (by simp; try omega)) _))⟩
          · obtain ⟨hgr, hlt⟩ := HJ.out.2.1.grow (List.mem_of_getElem? HCI.out) HOR.out (fun x hx => by have := HL.out C (List.mem_of_getElem? HCI.out) x hx; omega)
            have HGR := Lib.hid hgr
            have hk3 : k2 + 1 ≤ 8000000 := by
              have h1 := hgr.len
              have h2 := HFL.out
              have h3 := HAA.out.2.1
              have h4 := HJ.out.1
              rw [List.length_append, List.length_singleton] at h1
              omega
            have hmaxl : (8000001 : Nat) ≤ maxLen := by decide
            have HLL := Lib.hid (show k2 + 1 ≤ maxLen ∧ (k2 + 1) * 8 ≤ 140737488355328 from by omega)
            clear hgr hmaxl
            go_wp2_with (at_builtin; refine append_has (W := W) (size := 1) (bytes := 8) (z := .int .i64 0) (e := 3) (n := k2) (xs := iv all2) (news := [.int .i64 last]) rfl rfl Try.underlying25 (by kernel_rfl) rfl (by decide) rfl rfl (HK.out.step (by (repeat first | exact Fr.refl _ _ | assumption | apply Fr.n | apply Fr.d | apply Fr.a | refine Fr.s ?_ (.inr (by simp; try omega)) _))) (by (repeat first | rw [if_pos (by omega)] | rw [if_neg (by omega)] | rw [hp_drew] | rw [hp_drewN] | rw [hp_alloc_size] | rw [hp_setCell_size] | rw [hp_alloc] | rw [hp_setCell] | rw [oMS] | rw [upd_cells] | rw [lSZ] | rw [lSS] | rfl)) rfl (by simp [Value.oneCell']) HLL.out.1 HLL.out.2 ?_)
            intro g3 cap3 w4 h4 hf4 hg4
            rw [show iv all2 ++ [Value.int .i64 last] = iv (all2 ++ [last]) from by simp [iv]] at h4
            have H4 := Lib.hid h4
            clear h4 hf4 hg4 HK x1 xl hgl hc
            go_wp2
            go_roundg (n - (i + 1))
            case measure => omega
            case rel => exact ⟨i + 1, all2 ++ [last], k2 + 1, some ⟨g3, 0, none⟩, cap3, true, hin, Nat.le_refl _, rfl, rfl, by simp, by simp; omega, hk3, Lib.hid ⟨by rw [List.length_append, HJ.out.1]; rfl, HGR.out, fun e => by cases e⟩, Lib.hid (H4.out.step (by (repeat first | exact Fr.refl _ _ | assumption | apply Fr.n | apply Fr.d | apply Fr.a | refine Fr.s ?_ (.inr (by simp; try omega)) _)))⟩
          · go_wp2
            go_roundg (n - (i + 1))
            case measure => omega
            case rel =>
              refine ⟨i + 1, all2, k2, va2, vc2, b2, hin, Nat.le_refl _, rfl, rfl, by simp, hms, hk2, Lib.hid ⟨HJ.out.1, HJ.out.2.1, fun e j D hj hD => ?_⟩, Lib.hid (HK.out.step (by (repeat first | exact Fr.refl _ _ | assumption | apply Fr.n | apply Fr.d | apply Fr.a | refine Fr.s ?_ (.inr (by simp; try omega)) _)))⟩
              by_cases hji : j = i
              · subst hji
                have := HCI.out
                rw [hD] at this
                obtain rfl := Option.some.inj this
                exact HOR.out.two
              · exact HJ.out.2.2 e j D (by omega) hD
        · obtain rfl : i = n := by omega
          go_wp2
          go_roundg (2 * leftN F all2 + b2.toNat)
          case measure =>
            have : true.toNat = 1 := rfl
            omega
          case rel =>
            refine ⟨all2, k2, va2, vc2, b2, rfl, rfl, Nat.le_refl _, hk2, Lib.hid ⟨HJ.out.1, HJ.out.2.1, fun e C hC => ?_⟩, Lib.hid (HK.out.step (by (repeat first | exact Fr.refl _ _ | assumption | apply Fr.n | apply Fr.d | apply Fr.a | refine Fr.s ?_ (.inr (by simp; try omega)) _)))⟩
            obtain ⟨j, hj, rfl⟩ := List.getElem_of_mem hC
            exact HJ.out.2.2 e j _ (by rw [← HNT.out]; exact hj) (List.getElem?_eq_getElem hj)
end Go.Proofs.Ytbpaadpocihahaa
end

section
/- refute: Step and Check. -/
namespace Go.Proofs.Ytbpaadpocihahaa
open Go Go.RowKit Go.Proofs.Rg Go.Proofs.Mp Go.Proofs.Hp Go.Proofs.Sv Go.Proofs.Rp
set_option linter.unusedVariables false
set_option linter.unusedSimpArgs false
def validB (V : Int) (cs p : List (List Int)) : Bool := rightF V cs && rightF V p
theorem validB_one {V : Int} {cs p : List (List Int)} (h : validB V cs p = true) : rightF V cs = true ∧ rightF V p = true := by
  unfold validB at h; rwa [Bool.and_eq_true] at h
theorem rightF_nat {V : Int} {cs : List (List Int)} (h : rightF V cs = true) : ∃ n : Nat, V = n ∧ n ≤ 65536 := by
  unfold rightF at h
  simp only [Bool.and_eq_true, Bool.not_eq_true', Bool.or_eq_false_iff, decide_eq_false_iff_not] at h
  exact ⟨V.toNat, by omega, by omega⟩
set_option maxHeartbeats 4000000 in
theorem valid_calls {w : World} {V : Int} {a : Option Addr} {c : Nat} {cs : List (List Int)} (h : FormAt w a c cs) {pa : Option Addr} {pc : Nat} {p : List (List Int)} (hp : FormAt w pa pc p) :
    Calls Try.prog 25 #[.agg #[.int .i64 V, .slice a cs.length c], .slice pa p.length pc] w fun e w' => e = .returned (.bool (validB V cs p)) ∧ Fr [] w w' := by
  have HF := Lib.hid h
  have HP := Lib.hid hp
  have HB := Lib.hid (((Has.nil (Fr.refl [] w)).newBlk (.cells #[.int .i64 V, .slice a cs.length c] 24 (0, 0))))
  have hVB : validB V cs p = (rightF V cs && rightF V p) := rfl
  have HVB := Lib.hid hVB
  obtain ⟨b1, hb1⟩ : ∃ b, rightF V cs = b := ⟨_, rfl⟩
  obtain ⟨b2, hb2⟩ : ∃ b, rightF V p = b := ⟨_, rfl⟩
  rw [hb1, hb2] at HVB
  have HB1 := Lib.hid hb1
  have HB2 := Lib.hid hb2
  clear h hp hVB hb1 hb2
  go_enter Try.func25, Try.ntmps25
  go_wp2_with fail
  refine (FRight_calls (HF.out.fr (by (repeat first | exact Fr.refl _ _ | assumption | apply Fr.n | apply Fr.d | apply Fr.a | refine Fr.s ?_ (.inr (by simp; try omega)) _)))).mono ?_
  rw [HB1.out]
  rintro e w1 ⟨rfl, hf1⟩
  have h1 := HB.out.step hf1
  have hb := h1.blk
  have c0 : _ = some _ := heap_eq_cell hb 0
  have cl := lt_of_block hb
  have H1 := Lib.hid h1
  have HF1 := Lib.hid (show Fr [] w w1 from Fr.trans0 (by (repeat first | exact Fr.refl _ _ | assumption | apply Fr.n | apply Fr.d | apply Fr.a | refine Fr.s ?_ (.inr (by simp; try omega)) _)) hf1)
  clear h1 hb hf1 HB
  cases b1 with
  | false =>
    go_wp2
    go_ret
    exact ⟨by rw [HVB.out]; rfl, HF1.out.trans0 (by (repeat first | exact Fr.refl _ _ | assumption | apply Fr.n | apply Fr.d | apply Fr.a | refine Fr.s ?_ (.inr (by simp; try omega)) _))⟩
  | true =>
    go_wp2_with fail
    refine (FRight_calls (HP.out.fr (HF1.out.trans0 (by (repeat first | exact Fr.refl _ _ | assumption | apply Fr.n | apply Fr.d | apply Fr.a | refine Fr.s ?_ (.inr (by simp; try omega)) _))))).mono ?_
    rw [HB2.out]
    rintro e w2 ⟨rfl, hf2⟩
    have HF2 := Lib.hid (show Fr [] w w2 from HF1.out.trans0 (Fr.trans0 (by (repeat first | exact Fr.refl _ _ | assumption | apply Fr.n | apply Fr.d | apply Fr.a | refine Fr.s ?_ (.inr (by simp; try omega)) _)) hf2))
    clear hf2 c0 cl
    go_wp2
    go_ret
    exact ⟨by rw [HVB.out]; rfl, HF2.out.trans0 (by (repeat first | exact Fr.refl _ _ | assumption | apply Fr.n | apply Fr.d | apply Fr.a | refine Fr.s ?_ (.inr (by simp; try omega)) _))⟩
/-! ### Checking -/
theorem badAt_some : ∀ {p F : List (List Int)} {i : Nat} {c : List Int}, allF F (p.take i) = true → p[i]? = some c → folB (F ++ p.take i) c = false → badAt F p = some i
  | [], F, i, c, h, hi, hf => by simp at hi
  | d :: p, F, 0, c, h, hi, hf => by
    obtain rfl : d = c := by simpa using hi
    unfold badAt
    rw [if_neg (by rw [List.take_zero, List.append_nil] at hf; rw [hf]; exact Bool.false_ne_true)]
  | d :: p, F, i + 1, c, h, hi, hf => by
    unfold badAt
    rw [List.take_succ_cons] at h hf
    unfold allF at h
    rw [Bool.and_eq_true] at h
    rw [if_pos h.1, badAt_some (i := i) (c := c) h.2 (by simpa using hi) (by simpa using hf)]
    rfl
theorem allF_next {F p : List (List Int)} {i : Nat} {c : List Int} (h : allF F (p.take i) = true) (hi : p[i]? = some c) (hf : folB (F ++ p.take i) c = true) : allF F (p.take (i + 1)) = true := by
  rw [List.take_add_one, hi]
  show allF F (p.take i ++ [c]) = true
  rw [allF_append, h]
  simp [allF, hf]
theorem endsB_eq {p : List (List Int)} {n : Nat} (hn : p.length = n + 1) {c : List Int} (hc : p[n]? = some c) : endsB p = decide (c.length = 0) := by
  unfold endsB
  rw [List.getLast?_eq_getElem?, hn, Nat.add_sub_cancel, hc, Bool.eq_iff_iff]
  simp
def CheckPost (W : World) (Ps : List Res) (F p : List (List Int)) (e : Ending) (w' : World) : Prop := e = .returned (.tuple #[.int .i64 (chkN F p : Int), .int .i64 (chkE F p)]) ∧ Has W w' Ps
set_option maxHeartbeats 8000000 in
set_option maxRecDepth 100000 in
theorem check_calls {W w : World} {Ps : List Res} (h : Has W w Ps) {V : Nat} {a : Option Addr} {c : Nat} {vs : List Value} {cs : List (List Int)} (hF : FormHs W Ps a c vs cs) {pa : Option Addr} {pc : Nat} {pvs : List Value} {p : List (List Int)} (hP : FormHs W Ps pa pc pvs p)
    (hv : validB V cs p = true) (hs : ∀ r ∈ cs, r.length ≤ 1000000) (hsp : ∀ r ∈ p, r.length ≤ 1000000) :
    Calls Try.prog 30 #[.agg #[.int .i64 (V : Int), .slice a cs.length c], .slice pa p.length pc] w (CheckPost W Ps cs p) := by
  obtain ⟨hr, hrp⟩ := validB_one hv
  obtain ⟨hcl, hV, hlit⟩ := rightF_len hr
  obtain ⟨hpl, _, hlitp⟩ := rightF_len hrp
  have H := Lib.hid (h.newBlk (.cells #[.int .i64 (V : Int), .slice a cs.length c] 24 (0, 0)))
  have HF := Lib.hid hF
  have HP := Lib.hid hP
  have HS := Lib.hid hs
  have HSP := Lib.hid hsp
  have HR := Lib.hid hr
  have HLP := Lib.hid hlitp
  obtain ⟨n, hn⟩ : ∃ n, p.length = n := ⟨_, rfl⟩
  obtain ⟨k, hk⟩ : ∃ k, cs.length = k := ⟨_, rfl⟩
  rw [hn] at hpl ⊢
  have HN := Lib.hid hn
  have HK := Lib.hid hk
  rw [hk] at hcl
  clear h hF hP hs hsp hr hrp hlit hlitp hv hn hk
  go_enter Try.func30, Try.ntmps30
  go_wp2_with fail
  refine (with_calls H.out (HF.out.more fun P hP => List.mem_cons_of_mem _ hP) HR.out HS.out).mono ?_
  rintro e w1 ⟨g, CV, L, us, em, rfl, h1, hE⟩
  have H1 := Lib.hid ((h1.ord 2 [0]).step (Fr.refl [] w1))
  have HE := Lib.hid hE
  clear h1 hE H
  go_wp2
  go_loopg [14] n (fun gg z wr => ∃ i : Nat, i ≤ n ∧ n - i ≤ gg ∧ z = .int .i64 (i : Int) ∧ Hid (allF cs (p.take i) = true) ∧ Hid (WithInv W Ps V (cs ++ p.take i) g wr))
  case atStart => exact ⟨0, Nat.zero_le _, by omega, rfl, Lib.hid rfl, Lib.hid ⟨CV, L, us, em, H1.out.step (by (repeat first | exact Fr.refl _ _ | assumption | apply Fr.n | apply Fr.d | apply Fr.a | refine Fr.s ?_ (.inr (by simp; try omega)) _)), by rw [List.take_zero, List.append_nil]; exact HE.out⟩⟩
  case round =>
    obtain ⟨i, hi, hg, rfl, HA, HI⟩ := hrel
    clear H1 HE
    obtain ⟨CV, L, us, em, h, hE⟩ := HI.out
    by_cases hin : i < n
    · obtain ⟨r, hr⟩ : ∃ r, p[i]? = some r := ⟨_, List.getElem?_eq_getElem (by rw [HN.out]; exact hin)⟩
      obtain ⟨ra, rc, pg, off, rfl, hgl, hc, hsrc⟩ := HP.out.row h (fun P hP => by simp [hP]) hr
      have hrs := HSP.out r (List.mem_of_getElem? hr)
      have hrV := HLP.out r (List.mem_of_getElem? hr)
      have hlen : (cs ++ p.take i).length ≤ 900000 := by rw [List.length_append, List.length_take, HK.out]; omega
      have hrl : ∀ q ∈ cs ++ p.take i, q.length ≤ 1000000 := fun q hq => by
        rcases List.mem_append.1 hq with hq | hq
        · exact HS.out q hq
        · exact HSP.out q (List.mem_of_mem_take hq)
      have HX := Lib.hid hr
      have HFO := Lib.hid (fun w' (hf : Fr [] wr w') => follows_calls (h.step hf) hV hE ⟨hlen, hrl⟩ hsrc hrs hrV)
      have HAD := Lib.hid (fun w' CV L (h : Has W w' (engR g V CV L [] 0 us em :: Ps)) (hE : Eng V (cs ++ p.take i) (CV.map (·.2)) (wl L) us em) => add_calls h hV hE hlen hsrc hrs hrV)
      clear hr h hE HI hrs hrV hlen hrl hsrc
      go_wp2_with fail
      refine (HFO.out _ (by (repeat first | exact Fr.refl _ _ | assumption | apply Fr.n | apply Fr.d | apply Fr.a | refine Fr.s ?_ (.inr (by simp; try omega)) _))).mono ?_
      rintro e w2 ⟨CV2, L2, rfl, h2, hE2⟩
      obtain ⟨b, hb⟩ : ∃ b, folB (cs ++ p.take i) r = b := ⟨_, rfl⟩
      rw [hb]
      have HFB := Lib.hid hb
      have H2 := Lib.hid h2
      have HE2 := Lib.hid hE2
      clear h2 hE2 HFO hb hgl hc
      cases b with
      | false =>
        have HB := Lib.hid (badAt_some HA.out HX.out HFB.out)
        have HE0 := Lib.hid (show chkE cs p = 16 from by unfold chkE; rw [HB.out]; rfl)
        have HN0 := Lib.hid (show chkN cs p = i from by unfold chkN; rw [HB.out]; rfl)
        go_wp2
        go_ret2
        exact ⟨by rw [HE0.out, HN0.out]; rfl, H2.out.drop.step (by (repeat first | exact Fr.refl _ _ | assumption | apply Fr.n | apply Fr.d | apply Fr.a | refine Fr.s ?_ (.inr (by simp; try omega)) _))⟩
      | true =>
        have HA2 := Lib.hid (allF_next HA.out HX.out HFB.out)
        have htk : cs ++ p.take (i + 1) = (cs ++ p.take i) ++ [r] := by rw [List.take_add_one, HX.out, List.append_assoc]; rfl
        have HTK := Lib.hid htk
        clear htk
        go_wp2_with fail
        refine (HAD.out _ CV2 L2 (H2.out.step (by (repeat first | exact Fr.refl _ _ | assumption | apply Fr.n | apply Fr.d | apply Fr.a | refine Fr.s ?_ (.inr (by simp; try omega)) _))) HE2.out).mono ?_
        rintro e w3 ⟨CV3, L3, us3, em3, rfl, h3, hE3⟩
        have H3 := Lib.hid h3
        have HE3 := Lib.hid hE3
        clear h3 hE3 HAD H2 HE2
        go_wp2
        go_roundg (n - (i + 1))
        case measure => omega
        case rel => exact ⟨i + 1, hin, Nat.le_refl _, by simp, HA2, Lib.hid ⟨CV3, L3, us3, em3, H3.out.step (by (repeat first | exact Fr.refl _ _ | assumption | apply Fr.n | apply Fr.d | apply Fr.a | refine Fr.s ?_ (.inr (by simp; try omega)) _)), by rw [HTK.out]; exact HE3.out⟩⟩
    · obtain rfl : i = n := by omega
      have hall := HA.out
      rw [List.take_of_length_le (by rw [HN.out]; exact Nat.le_refl _)] at hall
      have hnb : badAt cs p = none := by
        have := badAt_none (p := p) (F := cs)
        rw [hall] at this
        exact Option.isNone_iff_eq_none.1 this
      have HNB := Lib.hid hnb
      have HN0 := Lib.hid (show chkN cs p = i from by unfold chkN; rw [hnb]; exact HN.out)
      have hE0 : chkE cs p = if endsB p then 0 else 16 := by unfold chkE; rw [hnb]; cases endsB p <;> simp
      have HEE := Lib.hid hE0
      have H1 := Lib.hid h
      clear hall hnb hE0 hE HI HA
      by_cases h0 : i = 0
      · subst h0
        obtain rfl : p = [] := List.eq_nil_of_length_eq_zero HN.out
        clear h
        go_wp2
        go_ret2
        exact ⟨by rw [HEE.out, HN0.out]; rfl, H1.out.drop.step (by (repeat first | exact Fr.refl _ _ | assumption | apply Fr.n | apply Fr.d | apply Fr.a | refine Fr.s ?_ (.inr (by simp; try omega)) _))⟩
      · obtain ⟨m, rfl⟩ : ∃ m, i = m + 1 := ⟨i - 1, by omega⟩
        obtain ⟨r, hr⟩ : ∃ r, p[m]? = some r := ⟨_, List.getElem?_eq_getElem (by rw [HN.out]; omega)⟩
        obtain ⟨ra, rc, pg, off, rfl, hgl, hc, hsrc⟩ := HP.out.row h (fun P hP => by simp [hP]) hr
        have hEQ := endsB_eq HN.out hr
        have HEQ := Lib.hid hEQ
        obtain ⟨q, hq⟩ : ∃ q, r.length = q := ⟨_, rfl⟩
        rw [hq] at hc HEQ
        clear h hr hsrc hEQ hq
        have hi1 : (((m + 1 : Nat) : Int) == 0) = false := by simp; omega
        by_cases hq0 : q = 0
        · subst hq0
          go_wp2
          go_ret2
          exact ⟨by rw [HEE.out, HEQ.out, HN0.out]; rfl, H1.out.drop.step (by (repeat first | exact Fr.refl _ _ | assumption | apply Fr.n | apply Fr.d | apply Fr.a | refine Fr.s ?_ (.inr (by simp; try omega)) _))⟩
        · have hqp : decide ((q : Int) > 0) = true := by simp; omega
          go_wp2
          go_ret2
          exact ⟨by rw [HEE.out, HEQ.out, HN0.out]; simp [hq0], H1.out.drop.step (by (repeat first | exact Fr.refl _ _ | assumption | apply Fr.n | apply Fr.d | apply Fr.a | refine Fr.s ?_ (.inr (by simp; try omega)) _))⟩
end Go.Proofs.Ytbpaadpocihahaa
end

section
/- refute: Step and Check, for arguments of any kind. -/
namespace Go.Proofs.Ytbpaadpocihahaa
open Go Go.RowKit Go.Proofs.Rg Go.Proofs.Mp Go.Proofs.Hp Go.Proofs.Sv Go.Proofs.Rp
set_option linter.unusedVariables false
set_option linter.unusedSimpArgs false
def chkNV (V : Int) (cs p : List (List Int)) : Nat := if validB V cs p then chkN cs p else 0
def chkEV (V : Int) (cs p : List (List Int)) : Int := if validB V cs p then chkE cs p else 2
def CheckVPost (W : World) (Ps : List Res) (V : Int) (cs p : List (List Int)) (e : Ending) (w' : World) : Prop := e = .returned (.tuple #[.int .i64 (chkNV V cs p : Int), .int .i64 (chkEV V cs p)]) ∧ Has W w' Ps
def stepB (V : Int) (cs : List (List Int)) (c : List Int) : Bool := validB V cs [c] && folB cs c
def stepE (V : Int) (cs : List (List Int)) (c : List Int) : Int := if validB V cs [c] then 0 else 2
def StepPost (W : World) (Ps : List Res) (V : Int) (cs : List (List Int)) (c : List Int) (e : Ending) (w' : World) : Prop := e = .returned (.tuple #[.bool (stepB V cs c), .int .i64 (stepE V cs c)]) ∧ Has W w' Ps
set_option maxHeartbeats 4000000 in
theorem Check_calls {W w : World} {Ps : List Res} (h : Has W w Ps) {V : Int} {a : Option Addr} {c : Nat} {vs : List Value} {cs : List (List Int)} (hF : FormHs W Ps a c vs cs) {pa : Option Addr} {pc : Nat} {pvs : List Value} {p : List (List Int)} (hP : FormHs W Ps pa pc pvs p)
    (hs : ∀ r ∈ cs, r.length ≤ 1000000) (hsp : ∀ r ∈ p, r.length ≤ 1000000) :
    Calls Try.prog 12 #[.agg #[.int .i64 V, .slice a cs.length c], .slice pa p.length pc] w (CheckVPost W Ps V cs p) := by
  have HA := Lib.hid (hF.src _ _ h fun P hP => hP)
  have HB := Lib.hid (hP.src _ _ h fun P hP => hP)
  have HH := Lib.hid (h.newBlk (.cells #[.int .i64 V, .slice a cs.length c] 24 (0, 0)))
  have HF := Lib.hid hF
  have HP := Lib.hid hP
  have HS := Lib.hid hs
  have HSP := Lib.hid hsp
  obtain ⟨b, hb⟩ : ∃ b, validB V cs p = b := ⟨_, rfl⟩
  have HVB := Lib.hid hb
  clear h hF hP hs hsp hb
  go_enter Try.func12, Try.ntmps12
  go_wp2_with fail
  refine (valid_calls (HA.out.fr (by (repeat first | exact Fr.refl _ _ | assumption | apply Fr.n | apply Fr.d | apply Fr.a | refine Fr.s ?_ (.inr (by simp; try omega)) _))) (HB.out.fr (by (repeat first | exact Fr.refl _ _ | assumption | apply Fr.n | apply Fr.d | apply Fr.a | refine Fr.s ?_ (.inr (by simp; try omega)) _)))).mono ?_
  rw [HVB.out]
  rintro e w1 ⟨rfl, hf1⟩
  have h1 := HH.out.step hf1
  have hb := h1.blk
  have c0 : _ = some _ := heap_eq_cell hb 0
  have c1 : _ = some _ := heap_eq_cell hb 1
  have cl := lt_of_block hb
  have H1 := Lib.hid h1
  clear h1 hb hf1 HH
  cases b with
  | false =>
    go_wp2
    go_ret2
    exact ⟨by unfold chkNV chkEV; rw [HVB.out]; rfl, H1.out.drop.step (by (repeat first | exact Fr.refl _ _ | assumption | apply Fr.n | apply Fr.d | apply Fr.a | refine Fr.s ?_ (.inr (by simp; try omega)) _))⟩
  | true =>
    obtain ⟨n, rfl, _⟩ := rightF_nat (validB_one HVB.out).1
    go_wp2_with fail
    refine (check_calls (H1.out.drop.step (by (repeat first | exact Fr.refl _ _ | assumption | apply Fr.n | apply Fr.d | apply Fr.a | refine Fr.s ?_ (.inr (by simp; try omega)) _))) HF.out HP.out HVB.out HS.out HSP.out).mono ?_
    rintro e w2 ⟨rfl, h2⟩
    have H2 := Lib.hid h2
    have HE := Lib.hid (show chkNV n cs p = chkN cs p ∧ chkEV n cs p = chkE cs p from by unfold chkNV chkEV; rw [HVB.out]; exact ⟨rfl, rfl⟩)
    obtain ⟨N, hN⟩ : ∃ N : Int, (chkN cs p : Int) = N := ⟨_, rfl⟩
    obtain ⟨E, hE⟩ : ∃ E, chkE cs p = E := ⟨_, rfl⟩
    rw [hN, hE]
    have HNE := Lib.hid (And.intro hN hE)
    clear h2 H1 c0 c1 cl hN hE
    go_wp2
    go_ret2
    exact ⟨by rw [HE.out.1, HE.out.2, HNE.out.1, HNE.out.2]; rfl, H2.out.step (by (repeat first | exact Fr.refl _ _ | assumption | apply Fr.n | apply Fr.d | apply Fr.a | refine Fr.s ?_ (.inr (by simp; try omega)) _))⟩
theorem one_form {w : World} {g T : Nat} {u : Value} {r : List Int} (h : w.heap[g]? = some (.cells #[u] T (0, 0))) (hr : IntsAt w u r) (hl : r.length ≤ 1000000) : FormAt w (some ⟨g, 0, none⟩) 1 [r] := by
  refine ⟨⟨[u], ⟨rfl, _, _, rfl, fun _ => ⟨g, 0, rfl, lt_of_block h, fun j v hj => ?_⟩⟩, fun i q hi => ?_⟩, by simp, fun q hq => ?_⟩
  · rw [Nat.zero_add, heap_eq_cell h j]
    simpa using hj
  · rcases i with _ | i
    · obtain rfl := Option.some.inj hi
      exact ⟨u, rfl, hr⟩
    · simp at hi
  · simp at hq; rw [hq]; omega
set_option maxHeartbeats 4000000 in
theorem Step_calls {W w : World} {Ps : List Res} (h : Has W w Ps) {V : Int} {a : Option Addr} {c : Nat} {vs : List Value} {cs : List (List Int)} (hF : FormHs W Ps a c vs cs) {ca : Option Addr} {cc : Nat} {r : List Int} (hC : IntsSrc W Ps ca cc r)
    (hs : ∀ r ∈ cs, r.length ≤ 1000000) (hl : r.length ≤ 1000000) :
    Calls Try.prog 10 #[.agg #[.int .i64 V, .slice a cs.length c], .slice ca r.length cc] w (StepPost W Ps V cs r) := by
  have HA := Lib.hid (hF.src _ _ h fun P hP => hP)
  have HCI := Lib.hid (hC _ _ h fun P hP => hP)
  have HH := Lib.hid (h.newBlk (.cells #[.int .i64 V, .slice a cs.length c] 24 (0, 0)))
  have HF := Lib.hid hF
  have HC := Lib.hid hC
  have HS := Lib.hid hs
  obtain ⟨b, hb⟩ : ∃ b, validB V cs [r] = b := ⟨_, rfl⟩
  have HVB := Lib.hid hb
  obtain ⟨m, hm⟩ : ∃ m, r.length = m := ⟨_, rfl⟩
  have HM := Lib.hid hm
  clear h hF hC hs hb
  rw [hm] at hl HCI ⊢
  clear hm
  go_enter Try.func10, Try.ntmps10
  go_wp2_with fail
  refine (valid_calls (p := [r]) (HA.out.fr (by (repeat first | exact Fr.refl _ _ | assumption | apply Fr.n | apply Fr.d | apply Fr.a | refine Fr.s ?_ (.inr (by simp; try omega)) _))) (one_form (T := 25) (u := .slice ca m cc) (by (repeat first | rw [if_pos (by omega)] | rw [if_neg (by omega)] | rw [hp_drew] | rw [hp_drewN] | rw [hp_alloc_size] | rw [hp_setCell_size] | rw [hp_alloc] | rw [hp_setCell] | rw [oMS] | rw [upd_cells] | rw [lSZ] | rw [lSS] | rfl)) (Reads.fr HCI.out (by (repeat first | exact Fr.refl _ _ | assumption | apply Fr.n | apply Fr.d | apply Fr.a | refine Fr.s ?_ (.inr (by simp; try omega)) _))) (by rw [HM.out]; exact hl))).mono ?_
  rw [HVB.out]
  rintro e w1 ⟨rfl, hf1⟩
  have h1 := HH.out.step (Fr.trans0 (by (repeat first | exact Fr.refl _ _ | assumption | apply Fr.n | apply Fr.d | apply Fr.a | refine Fr.s ?_ (.inr (by simp; try omega)) _)) hf1)
  have hb := h1.blk
  have c0 : _ = some _ := heap_eq_cell hb 0
  have c1 : _ = some _ := heap_eq_cell hb 1
  have cl := lt_of_block hb
  have H1 := Lib.hid h1
  clear h1 hb hf1 HH
  cases b with
  | false =>
    go_wp2
    go_ret2
    exact ⟨by unfold stepB stepE; rw [HVB.out]; rfl, H1.out.drop.step (by (repeat first | exact Fr.refl _ _ | assumption | apply Fr.n | apply Fr.d | apply Fr.a | refine Fr.s ?_ (.inr (by simp; try omega)) _))⟩
  | true =>
    obtain ⟨hr1, hr2⟩ := validB_one HVB.out
    obtain ⟨n, rfl, hn⟩ := rightF_nat hr1
    obtain ⟨hcl, hV, _⟩ := rightF_len hr1
    have hlr := (rightF_len hr2).2.2 r (by simp)
    have HLR := Lib.hid hlr
    have HR1 := Lib.hid hr1
    clear hr1 hr2 hlr
    go_wp2_with fail
    refine (with_calls (H1.out.drop.step (by (repeat first | exact Fr.refl _ _ | assumption | apply Fr.n | apply Fr.d | apply Fr.a | refine Fr.s ?_ (.inr (by simp; try omega)) _))) HF.out HR1.out HS.out).mono ?_
    rintro e w2 ⟨g, CV, L, us, em, rfl, h2, hE⟩
    have HFO := Lib.hid (fun w' (hf : Fr [] w2 w') => follows_calls (h2.step hf) hV hE ⟨by omega, HS.out⟩ HC.out (by rw [HM.out]; exact hl) HLR.out)
    rw [HM.out] at HFO
    clear h2 hE H1 c0 c1 cl
    go_wp2_with fail
    refine (HFO.out _ (by (repeat first | exact Fr.refl _ _ | assumption | apply Fr.n | apply Fr.d | apply Fr.a | refine Fr.s ?_ (.inr (by simp; try omega)) _))).mono ?_
    rintro e w3 ⟨CV2, L2, rfl, h3, _⟩
    obtain ⟨q, hq⟩ : ∃ q, folB cs r = q := ⟨_, rfl⟩
    rw [hq]
    have HQ := Lib.hid hq
    have H3 := Lib.hid h3
    clear h3 HFO hq
    go_wp2
    go_ret2
    exact ⟨by unfold stepB stepE; rw [HVB.out, HQ.out]; rfl, H3.out.drop.step (by (repeat first | exact Fr.refl _ _ | assumption | apply Fr.n | apply Fr.d | apply Fr.a | refine Fr.s ?_ (.inr (by simp; try omega)) _))⟩
end Go.Proofs.Ytbpaadpocihahaa
end
