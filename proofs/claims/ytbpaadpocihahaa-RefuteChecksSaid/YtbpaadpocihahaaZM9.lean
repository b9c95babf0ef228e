/- Own texts of this claim, part 10: no condition. -/
import Derived.Test.YtbpaadpocihahaaZM8
import Derived.Test.YtbpaadpocihahaaZM7
import Derived.Test.YtbpaadpocihahaaZM5
set_option linter.unusedVariables false
set_option linter.unusedSimpArgs false
section
/- formula.Eval. -/
namespace Go.Proofs.Ytbpaadpocihahaa
open Go Go.RowKit Go.Proofs.Rg Go.Proofs.Mp Go.Proofs.Hp Go.Proofs.Sv Go.Proofs.Rp
set_option linter.unusedVariables false
set_option linter.unusedSimpArgs false
/-- literals of V variables -/
abbrev LitV (V : Nat) : Type := { x : Int // x ≠ 0 ∧ x.natAbs ≤ V }
def encL {V : Nat} (x : LitV V) : Value := .int .i64 x.1
theorem pmap_lits {V : Nat} (l : List Int) (h : ∀ x ∈ l, x ≠ 0 ∧ x.natAbs ≤ V) : ∃ zs : List (LitV V), zs.map (·.1) = l := by
  induction l with
  | nil => exact ⟨[], rfl⟩
  | cons x l ih =>
    obtain ⟨zs, hz⟩ := ih fun y hy => h y (by simp [hy])
    exact ⟨⟨x, h x (by simp)⟩ :: zs, by rw [List.map_cons, hz]⟩
theorem eval1_pred {w : World} {eb V lc : Nat} {la : Option Addr} {l : List Bool} (hl : BoolsAt w (.slice la l.length lc) l) (hV : l.length = V) (h6 : V ≤ 65536) (he : w.cell? ⟨eb, 0, none⟩ = some (.slice la l.length lc)) (hel : eb < w.heap.size) :
    PredAt Try.prog 44 #[.pointer (some ⟨eb, 0, none⟩)] (encL (V := V)) (fun y => litT l y.1) w := fun W x hb => by
  obtain ⟨x, h0, hx⟩ := x
  have hc : W.cell? ⟨eb, 0, none⟩ = some (.slice la l.length lc) := (hb.cell (p := ⟨eb, 0, none⟩) hel).trans he
  have hL := hl.fr (w' := W) ⟨hb.os, hb.tape, hb.output, hb.size, fun b h1 _ => hb.block b h1⟩
  have hew : eb < W.heap.size := Nat.lt_of_lt_of_le hel hb.size
  show Calls Try.prog 44 #[.int .i64 x, .pointer (some ⟨eb, 0, none⟩)] W fun e w' => e = .returned (.bool (litT l x)) ∧ ∃ q, w' = W.drewN q
  have hw1 : IntKind.i64.wrap (-x) = -x := IntWalk.i64_in _ (by omega)
  obtain ⟨v, hv⟩ : ∃ v, x.natAbs = v := ⟨_, rfl⟩
  have hmx : max x (-x) = ((v : Nat) : Int) := by omega
  obtain ⟨j, rfl⟩ : ∃ j, v = j + 1 := ⟨v - 1, by omega⟩
  obtain ⟨b, hbj⟩ : ∃ b, l[j]? = some b := ⟨_, List.getElem?_eq_getElem (by omega)⟩
  obtain ⟨g3, off3, rfl, hgl3, hc3⟩ := BoolsAt.get hL hbj
  obtain ⟨px, hpx⟩ : ∃ p, decide (x > 0) = p := ⟨_, rfl⟩
  have HO := Lib.hid (show litT l x = (b == px) by
    unfold litT
    rw [hv, Nat.add_sub_cancel, List.getD_eq_getElem?_getD, hbj, ← hpx]
    rfl)
  rw [hV] at hc
  have hjV : j + 1 ≤ V := by omega
  clear hl hV he hel hb hL h0 hv hbj hx
  go_enter Try.func44, Try.ntmps44
  go_wp2
  go_ret
  exact ⟨by rw [HO.out]; rfl, 0, rfl⟩
theorem any_calls {w : World} {eb V lc : Nat} {la : Option Addr} {l : List Bool} (hl : BoolsAt w (.slice la l.length lc) l) (hV : l.length = V) (h6 : V ≤ 65536) (he : w.cell? ⟨eb, 0, none⟩ = some (.slice la l.length lc)) (hel : eb < w.heap.size)
    {ra : Option Addr} {rc : Nat} {r : List Int} (hr : IntsAt w (.slice ra r.length rc) r) (hrl : r.length ≤ 1000000) (hlit : ∀ x ∈ r, x ≠ 0 ∧ x.natAbs ≤ V) :
    Calls Try.prog 43 #[.slice ra r.length rc, .func (.func 44) #[] #[.pointer (some ⟨eb, 0, none⟩)]] w fun e w' => e = .returned (.bool (r.any (litT l))) ∧ Fr [] w w' := by
  by_cases h0 : r.length = 0
  · obtain rfl : r = [] := List.eq_nil_of_length_eq_zero h0
    have hcon := AnyE.slices_ContainsFunc_empty Try.shContainsI ra rc (.func (.func 44) #[] #[.pointer (some ⟨eb, 0, none⟩)]) w
    refine hcon.mono ?_
    rintro e w' ⟨rfl, rfl⟩
    exact ⟨rfl, Fr.refl [] _⟩
  · obtain ⟨g, off, rfl, hg, _⟩ := IntsAt.get hr (List.getElem?_eq_getElem (show 0 < r.length by omega))
    obtain ⟨zs, hzs⟩ := pmap_lits (V := V) r hlit
    have hlz : zs.length = r.length := by have := congrArg List.length hzs; simpa using this
    haveI : Inhabited (LitV V) := ⟨⟨r[0], hlit _ (List.getElem_mem _)⟩⟩
    have eg : ∀ args w, (callFunc 44 args).run Try.prog w = .ok (.enter 44 args) w := enters_of Try.func44 (by kernel_rfl) rfl
    have hcon := AnyE.slices_ContainsFunc Try.shContainsI (encL (V := V)) (fun y => litT l y.1) 44 #[.pointer (some ⟨eb, 0, none⟩)] eg g off r.length rc zs w (eval1_pred hl hV h6 he hel) (by omega) (by omega) (fun j hj => by
      have hj2 : j < r.length := by omega
      obtain ⟨g2, off2, he2, _, hcc⟩ := IntsAt.get hr (List.getElem?_eq_getElem hj2)
      cases he2
      rw [hcc]
      have e1 : zs[j]?.map (·.1) = some r[j] := by
        rw [← List.getElem?_map, hzs, List.getElem?_eq_getElem hj2]
      rw [List.getElem?_eq_getElem hj] at e1
      simp at e1
      simp [encL, hj, e1])
    change Calls Try.prog 43 _ _ _ at hcon
    refine hcon.mono ?_
    rintro e w' ⟨rfl, q, rfl⟩
    refine ⟨?_, by (repeat first | exact Fr.refl _ _ | assumption | apply Fr.n | apply Fr.d | apply Fr.a | refine Fr.s ?_ (.inr (by simp; try omega)) _)⟩
    rw [List.take_of_length_le (by omega)]
    have e2 : r.any (litT l) = zs.any (fun y => litT l y.1) := by
      rw [← hzs, List.any_map]
      rfl
    rw [e2]
end Go.Proofs.Ytbpaadpocihahaa
end

section
/- formula.Eval: whole. -/
namespace Go.Proofs.Ytbpaadpocihahaa
open Go Go.RowKit Go.Proofs.Rg Go.Proofs.Mp Go.Proofs.Hp Go.Proofs.Sv Go.Proofs.Rp
set_option linter.unusedVariables false
set_option linter.unusedSimpArgs false
def FEvPost (w : World) (V : Int) (cs : List (List Int)) (l : List Bool) (e : Ending) (w' : World) : Prop :=
  (¬ (rightF V cs = true ∧ (l.length : Int) = V) ∧ e = .returned (.tuple #[.bool false, .int .i64 2]) ∨ rightF V cs = true ∧ (l.length : Int) = V ∧ e = .returned (.tuple #[.bool (sat cs l), .int .i64 0])) ∧ Fr [] w w'
set_option maxHeartbeats 8000000 in
theorem FEval_calls {w : World} {V : Int} {a : Option Addr} {c : Nat} {cs : List (List Int)} (h : FormAt w a c cs) (hs : ∀ r ∈ cs, r.length ≤ 1000000) {la : Option Addr} {lc : Nat} {l : List Bool} (hl : BoolsAt w (.slice la l.length lc) l) (hll : l.length ≤ 70000) :
    Calls Try.prog 24 #[.agg #[.int .i64 V, .slice a cs.length c], .slice la l.length lc] w (FEvPost w V cs l) := by
  have HI := Lib.hid h
  have HS := Lib.hid hs
  have HL := Lib.hid hl
  obtain ⟨n, hn⟩ : ∃ n, cs.length = n := ⟨_, rfl⟩
  obtain ⟨nl, hnl⟩ : ∃ n, l.length = n := ⟨_, rfl⟩
  have HRC := Lib.hid (fun w' (hf : Fr [] w w') => FRight_calls (V := V) (h.fr hf))
  rw [hn] at HRC ⊢
  have hnl2 := hnl
  rw [hnl] at hll ⊢
  have HN := Lib.hid (And.intro hn hnl)
  have h2 := ((Has.nil (Fr.refl [] w)).newBlk (.cells #[.int .i64 V, .slice a n c] 24 (0, 0))).newBlk (.cells #[.slice la nl lc] 42 (0, 0))
  simp only [hp_alloc_size] at h2
  have H0 := Lib.hid h2
  clear h hs hl hn hnl hnl2 h2
  go_enter Try.func24, Try.ntmps24
  go_wp2_with fail
  refine (HRC.out _ (by (repeat first | exact Fr.refl _ _ | assumption | apply Fr.n | apply Fr.d | apply Fr.a | refine Fr.s ?_ (.inl (by simp)) _))).mono ?_
  rintro e w1 ⟨rfl, hf1⟩
  have H1 := Lib.hid (H0.out.step (Fr.trans0 (by (repeat first | exact Fr.refl _ _ | assumption | apply Fr.n | apply Fr.d | apply Fr.a | refine Fr.s ?_ (.inr (by simp; try omega)) _)) hf1))
  obtain ⟨fb, hfb⟩ : ∃ b, w.heap.size = b := ⟨_, rfl⟩
  rw [hfb] at H1 ⊢
  obtain ⟨eb, heb⟩ : ∃ b, fb + 1 = b := ⟨_, rfl⟩
  rw [heb] at H1 ⊢
  obtain ⟨R, hR⟩ : ∃ R, rightF V cs = R := ⟨_, rfl⟩
  rw [hR]
  have HR := Lib.hid hR
  have hb := H1.out.blk
  have c0 : _ = some _ := heap_eq_cell hb 0
  have cl := lt_of_block hb
  have hb := (H1.out.bring 1).blk
  have d0 : _ = some _ := heap_eq_cell hb 0
  have d1 : _ = some _ := heap_eq_cell hb 1
  have dl := lt_of_block hb
  clear hf1 hfb heb hR HRC hb H0
  cases R with
  | false =>
    go_wp2
    go_ret2
    exact ⟨.inl ⟨fun h => absurd h.1 (by rw [HR.out]; simp), rfl⟩, H1.out.fr.trans0 (by (repeat first | exact Fr.refl _ _ | assumption | apply Fr.n | apply Fr.d | apply Fr.a | refine Fr.s ?_ (.inr (by simp; try omega)) _))⟩
  | true =>
    by_cases h2 : (nl : Int) = V
    case neg =>
      have b2 : ((nl : Int) != V) = true := by simpa using h2
      have HE := Lib.hid h2
      clear h2
      go_wp2
      go_ret2
      exact ⟨.inl ⟨fun h => HE.out (by rw [← HN.out.2]; exact h.2), rfl⟩, H1.out.fr.trans0 (by (repeat first | exact Fr.refl _ _ | assumption | apply Fr.n | apply Fr.d | apply Fr.a | refine Fr.s ?_ (.inr (by simp; try omega)) _))⟩
    subst h2
    have b2 : ((nl : Int) != (nl : Int)) = false := by simp
    obtain ⟨hcl, hV, hlit⟩ := rightF_len HR.out
    rw [HN.out.1] at hcl
    obtain ⟨RR, hRR⟩ : ∃ R, sat cs l = R := ⟨_, rfl⟩
    have HH := Lib.hid hRR
    have HZ := Lib.hid (And.intro HS.out hlit)
    clear hlit hRR
    go_wp2
    go_loopg [21] n (fun gg z wr => ∃ i : Nat, i ≤ n ∧ n - i ≤ gg ∧ z = .int .i64 (i : Int) ∧ Hid (Has w wr [Hp.blk eb (.cells #[.slice la nl lc] 42 (0, 0)), Hp.blk fb (.cells #[.int .i64 (nl : Int), .slice a n c] 24 (0, 0))]) ∧ Hid ((cs.take i).all (fun c => c.any (litT l)) = true))
    case atStart => exact ⟨0, Nat.zero_le _, by omega, rfl, Lib.hid (H1.out.step (by (repeat first | exact Fr.refl _ _ | assumption | apply Fr.n | apply Fr.d | apply Fr.a | refine Fr.s ?_ (.inr (by simp; try omega)) _))), Lib.hid rfl⟩
    case round =>
      obtain ⟨i, hi, hg, rfl, HW, HA⟩ := hrel
      clear c0 cl d0 d1 dl H1
      by_cases hin : i < n
      · obtain ⟨r, hr⟩ : ∃ r, cs[i]? = some r := ⟨_, List.getElem?_eq_getElem (by rw [HN.out.1]; exact hin)⟩
        obtain ⟨g, off, ra, rc, hae, hgl, hc, hri⟩ := (HI.out.fr HW.out.fr).1.row hr
        subst hae
        have htk : cs.take (i + 1) = cs.take i ++ [r] := by rw [List.take_add_one, hr]; rfl
        have HTK := Lib.hid htk
        have HMEM := Lib.hid (List.mem_of_getElem? hr)
        have hb := HW.out.blk
        have c0 : _ = some _ := heap_eq_cell hb 0
        have cl := lt_of_block hb
        have hLb := HL.out.fr HW.out.fr
        have c0' : wr.cell? ⟨eb, 0, none⟩ = some (.slice la l.length lc) := by rw [HN.out.2]; exact c0
        have HAC := Lib.hid (fun w' (hf : Fr [] wr w') => any_calls (hLb.fr hf) HN.out.2 (by omega) ((hf.cell (p := ⟨eb, 0, none⟩) cl (by simp)).trans c0') (Nat.lt_of_lt_of_le cl hf.size) (hri.fr hf) (HZ.out.1 r HMEM.out) (HZ.out.2 r HMEM.out))
        obtain ⟨q, hq⟩ : ∃ q, r.any (litT l) = q := ⟨_, rfl⟩
        rw [hq] at HAC
        have HQ := Lib.hid hq
        clear hr htk hri hb hLb c0' hq
        go_wp2_with fail
        refine (HAC.out _ (by (repeat first | exact Fr.refl _ _ | assumption | apply Fr.n | apply Fr.d | apply Fr.a | refine Fr.s ?_ (.inr (by simp; try omega)) _))).mono ?_
        rintro e w2 ⟨rfl, hf2⟩
        have H2 := Lib.hid (HW.out.step (Fr.trans0 (by (repeat first | exact Fr.refl _ _ | assumption | apply Fr.n | apply Fr.d | apply Fr.a | refine Fr.s ?_ (.inr (by simp; try omega)) _)) hf2))
        clear hf2 HAC HW c0 cl hc
        cases q with
        | true =>
          go_wp2
          go_roundg (n - (i + 1))
          case measure => omega
          case rel => exact ⟨i + 1, hin, Nat.le_refl _, by simp, Lib.hid (H2.out.step (by (repeat first | exact Fr.refl _ _ | assumption | apply Fr.n | apply Fr.d | apply Fr.a | refine Fr.s ?_ (.inr (by simp; try omega)) _))), Lib.hid (by rw [HTK.out, List.all_append, HA.out]; simp [HQ.out])⟩
        | false =>
          have hres : RR = false := by
            rw [← HH.out]
            unfold sat
            rw [List.all_eq_false]
            exact ⟨r, HMEM.out, by rw [HQ.out]; simp⟩
          have HRES := Lib.hid hres
          clear hres
          go_wp2
          go_ret2
          exact ⟨.inr ⟨HR.out, by rw [HN.out.2], by rw [HH.out, HRES.out]; rfl⟩, H2.out.fr.trans0 (by (repeat first | exact Fr.refl _ _ | assumption | apply Fr.n | apply Fr.d | apply Fr.a | refine Fr.s ?_ (.inr (by simp; try omega)) _))⟩
      · obtain rfl : i = n := by omega
        have hall := HA.out
        rw [List.take_of_length_le (by rw [HN.out.1]; exact Nat.le_refl _)] at hall
        have HALL := Lib.hid (show RR = true from HH.out.symm.trans hall)
        clear hall HA
        go_wp2
        go_ret2
        exact ⟨.inr ⟨HR.out, by rw [HN.out.2], by rw [HH.out, HALL.out]; rfl⟩, HW.out.fr.trans0 (by (repeat first | exact Fr.refl _ _ | assumption | apply Fr.n | apply Fr.d | apply Fr.a | refine Fr.s ?_ (.inr (by simp; try omega)) _))⟩
end Go.Proofs.Ytbpaadpocihahaa
end

section
/- refute: a clause is added: what the engine's state is then. Nothing of the program. -/
namespace Go.Proofs.Ytbpaadpocihahaa
open Go Go.Proofs.Sv Go.Proofs.Rp
set_option linter.unusedVariables false
set_option linter.unusedSimpArgs false
theorem bigs_snoc (F : List (List Int)) (c : List Int) : bigsOf dd (F ++ [c]) = bigsOf dd F ++ (if !tautB (dd c) && decide (2 ≤ (dd c).length) then [dd c] else []) := by
  unfold bigsOf
  rw [List.map_append, List.filter_append]
  congr 1
  simp only [List.map_cons, List.map_nil, List.filter_cons, List.filter_nil]
theorem ones_snoc (F : List (List Int)) (c : List Int) : onesOf dd (F ++ [c]) = onesOf dd F ++ (match dd c with | [x] => [x] | _ => []) := by
  unfold onesOf
  rw [List.map_append, List.filterMap_append]
  congr 1
  simp only [List.map_cons, List.map_nil, List.filterMap_cons, List.filterMap_nil]
  cases dd c with
  | nil => rfl
  | cons x l => cases l <;> rfl
theorem none_snoc (F : List (List Int)) (c : List Int) : noneOf dd (F ++ [c]) = (noneOf dd F || (dd c).isEmpty) := by
  unfold noneOf
  rw [List.any_append]; simp
theorem taut_two {l : List Int} (h0 : ∀ x ∈ l, x ≠ 0) (h : tautB l = true) : 2 ≤ l.length := by
  obtain ⟨z, hz, hn⟩ := List.any_eq_true.1 h
  have hn : -z ∈ l := by simpa using hn
  have := h0 z hz
  match l, hz, hn with
  | [y], hz, hn =>
    simp at hz hn
    omega
  | _ :: _ :: _, _, _ => simp
theorem taut_find {l : List Int} (h0 : ∀ x ∈ l, x ≠ 0) (h : tautB l = true) : ∃ x ∈ l, 0 < x ∧ -x ∈ l := by
  obtain ⟨z, hz, hn⟩ := List.any_eq_true.1 h
  have hn : -z ∈ l := by simpa using hn
  have := h0 z hz
  by_cases hp : 0 < z
  · exact ⟨z, hz, hp, hn⟩
  · exact ⟨-z, hn, by omega, by rw [Int.neg_neg]; exact hz⟩
theorem taut_of {l : List Int} {x : Int} (hx : x ∈ l) (hn : -x ∈ l) : tautB l = true := List.any_eq_true.2 ⟨x, hx, by simpa using hn⟩
theorem Perms.snoc {cl0 cl : List (List Int)} (h : Perms cl0 cl) (l : List Int) : Perms (cl0 ++ [l]) (cl ++ [l]) := by
  refine ⟨by simp [h.1], fun k c c0 h1 h2 => ?_⟩
  rcases Nat.lt_trichotomy k cl.length with hk | hk | hk
  · rw [List.getElem?_append_left hk] at h1
    rw [List.getElem?_append_left (by rw [← h.1]; exact hk)] at h2
    exact h.2 k c c0 h1 h2
  · subst hk
    rw [List.getElem?_append_right (Nat.le_refl _), Nat.sub_self] at h1
    rw [h.1, List.getElem?_append_right (Nat.le_refl _), Nat.sub_self] at h2
    rw [h1] at h2
    cases h2
    exact List.Perm.refl _
  · rw [List.getElem?_eq_none (by simp; omega)] at h1
    cases h1
theorem wt_add {cl : List (List Int)} {wt : Int → List Nat} (h : WtOk cl wt) {l : List Int} (hn : l.Nodup) {a b : Int} (ha : l[0]? = some a) (hb : l[1]? = some b) :
    WtOk (cl ++ [l]) (Sv.upd (Sv.upd wt a (wt a ++ [cl.length])) b (wt b ++ [cl.length])) := by
  have hab : a ≠ b := by
    rintro rfl
    obtain ⟨l1, e1⟩ := List.getElem?_eq_some_iff.1 ha
    obtain ⟨l2, e2⟩ := List.getElem?_eq_some_iff.1 hb
    have := (List.getElem_inj hn).1 (e1.trans e2.symm)
    omega
  have hlast : ∀ x, cl.length ∉ wt x := fun x hx => by
    obtain ⟨d, hd, _⟩ := ((h x).2 cl.length).1 hx
    have := (List.getElem?_eq_some_iff.1 hd).1
    omega
  have hnew : ∀ x, (wt x ++ [cl.length]).Nodup := fun x => by
    rw [List.nodup_append]
    refine ⟨(h x).1, by simp, fun p hp q hq e => ?_⟩
    simp at hq
    subst hq; subst e
    exact hlast x hp
  have key : ∀ x k, (∃ d, (cl ++ [l])[k]? = some d ∧ (d[0]? = some x ∨ d[1]? = some x)) ↔ (k ∈ wt x ∨ (k = cl.length ∧ (x = a ∨ x = b))) := by
    intro x k
    rw [(h x).2 k]
    rcases Nat.lt_trichotomy k cl.length with hk | hk | hk
    · rw [List.getElem?_append_left hk]
      constructor
      · exact .inl
      · rintro (h1 | h1)
        · exact h1
        · omega
    · subst hk
      rw [List.getElem?_append_right (Nat.le_refl _), List.getElem?_eq_none (Nat.le_refl _)]
      simp [ha, hb, eq_comm]
    · rw [List.getElem?_eq_none (by simp; omega), List.getElem?_eq_none (by omega)]
      simp; omega
  intro x
  by_cases hxb : x = b
  · subst hxb
    simp only [Sv.upd, if_true]
    refine ⟨hnew x, fun k => ?_⟩
    rw [key]; simp
  · by_cases hxa : x = a
    · subst hxa
      simp only [Sv.upd, if_neg hxb, if_true]
      refine ⟨hnew x, fun k => ?_⟩
      rw [key]; simp
    · simp only [Sv.upd, if_neg hxb, if_neg hxa]
      refine ⟨(h x).1, fun k => ?_⟩
      rw [key]; simp [hxa, hxb]
section
variable {V : Nat} {F cl : List (List Int)} {wt : Int → List Nat} {us : List Int} {em : Bool} {c l : List Int}
theorem Eng.start (V : Nat) : Eng V [] [] (fun _ => []) [] false := by
  refine ⟨?_, ?_, ⟨rfl, ?_⟩, rfl, rfl, ?_⟩
  · intro c h; cases h
  · intro x
    refine ⟨List.nodup_nil, fun k => ⟨fun h => ?_, fun h => ?_⟩⟩
    · cases h
    · obtain ⟨c, h, _⟩ := h
      simp at h
  · intro k c c0 h; simp at h
  · intro c h; cases h
theorem Lits.snoc (h : Lits V F) (hc : ∀ x ∈ c, x ≠ 0 ∧ x.natAbs ≤ V) : Lits V (F ++ [c]) := fun C hC => by
  rcases List.mem_append.1 hC with hC | hC
  · exact h C hC
  · simp at hC; rw [hC]; exact hc
theorem Eng.taut (h : Eng V F cl wt us em) (hc : ∀ x ∈ c, x ≠ 0 ∧ x.natAbs ≤ V) (hl : dd c = l) (ht : tautB l = true) : Eng V (F ++ [c]) cl wt us em := by
  have h2 := taut_two (fun x hx => (hc x ((ddm c x).1 (by rw [hl]; exact hx))).1) ht
  refine ⟨h.hcl, h.hwt, ?_, ?_, ?_, Lits.snoc h.lits hc⟩
  · rw [bigs_snoc, hl, ht]
    simp only [Bool.not_true, Bool.false_and, Bool.false_eq_true, if_false, List.append_nil]
    exact h.hperm
  · rw [ones_snoc, hl, ← h.hus]
    match l, h2 with
    | _ :: _ :: _, _ => simp
  · rw [none_snoc, hl, ← h.hem]
    match l, h2 with
    | _ :: _ :: _, _ => simp
theorem Eng.nil (h : Eng V F cl wt us em) (hl : dd c = []) : Eng V (F ++ [c]) cl wt us true := by
  have hc : c = [] := (d_nil_iff ddm).1 hl
  refine ⟨h.hcl, h.hwt, ?_, ?_, ?_, Lits.snoc h.lits (by rw [hc]; simp)⟩
  · rw [bigs_snoc, hl]
    simp
    exact h.hperm
  · rw [ones_snoc, hl, ← h.hus]; simp
  · rw [none_snoc, hl]; simp
theorem Eng.one (h : Eng V F cl wt us em) (hc : ∀ x ∈ c, x ≠ 0 ∧ x.natAbs ≤ V) {x : Int} (hl : dd c = [x]) : Eng V (F ++ [c]) cl wt (us ++ [x]) em := by
  refine ⟨h.hcl, h.hwt, ?_, ?_, ?_, Lits.snoc h.lits hc⟩
  · rw [bigs_snoc, hl]
    simp
    exact h.hperm
  · rw [ones_snoc, hl, ← h.hus]
  · rw [none_snoc, hl, ← h.hem]; simp
theorem Eng.big (h : Eng V F cl wt us em) (hc : ∀ x ∈ c, x ≠ 0 ∧ x.natAbs ≤ V) (hl : dd c = l) (ht : tautB l = false) (h2 : 2 ≤ l.length) {a b : Int} (ha : l[0]? = some a) (hb : l[1]? = some b) :
    Eng V (F ++ [c]) (cl ++ [l]) (Sv.upd (Sv.upd wt a (wt a ++ [cl.length])) b (wt b ++ [cl.length])) us em := by
  have hnd : l.Nodup := by rw [← hl]; exact dd_nodup c
  have hlV : ∀ x ∈ l, x ≠ 0 ∧ x.natAbs ≤ V := fun x hx => hc x ((ddm c x).1 (by rw [hl]; exact hx))
  refine ⟨fun d hd => ?_, wt_add h.hwt hnd ha hb, ?_, ?_, ?_, Lits.snoc h.lits hc⟩
  · rcases List.mem_append.1 hd with hd | hd
    · exact h.hcl d hd
    · simp at hd; rw [hd]; exact ⟨h2, hnd, hlV⟩
  · rw [bigs_snoc, hl, ht]
    simp only [Bool.not_false, Bool.true_and, decide_eq_true h2, if_true]
    exact Perms.snoc h.hperm l
  · rw [ones_snoc, hl, ← h.hus]
    match l, h2 with
    | _ :: _ :: _, _ => simp
  · rw [none_snoc, hl, ← h.hem]
    match l, h2 with
    | _ :: _ :: _, _ => simp
end
end Go.Proofs.Ytbpaadpocihahaa
end

section
/- refute: a clause is added to the engine. -/
namespace Go.Proofs.Ytbpaadpocihahaa
open Go Go.RowKit Go.Proofs.Rg Go.Proofs.Mp Go.Proofs.Hp Go.Proofs.Sv Go.Proofs.Rp
set_option linter.unusedVariables false
set_option linter.unusedSimpArgs false
def AddPost (W : World) (Ps : List Res) (V : Nat) (F : List (List Int)) (p : Nat) (c : List Int) (e : Ending) (w' : World) : Prop :=
  ∃ CV' L' us' em', e = .returned (.tuple #[]) ∧ Has W w' (engR p V CV' L' [] 0 us' em' :: Ps) ∧ Eng V (F ++ [c]) (CV'.map (·.2)) (wl L') us' em'
/-- the things while a clause is laid in its lists -/
def newL (eb V g1 vc : Nat) (l : List Int) (CV : List (Value × List Int)) (hs : List Value) (L : List (Int × (Value × List Nat))) (mb : Nat) (cv uv vv tv : Value) (us : List Int) (em : Bool) : List Res :=
  [Hp.row 3 1 (.slice (some ⟨g1, 0, none⟩) l.length vc) l.length (iv l), blk eb (.cells #[cv, .map (some mb), uv, .bool em, vv, tv, .int .i64 0] 60 (0, 0)),
   Hp.row 25 1 cv hs.length hs, bun (CV.map rowC), mapT mb (fun n : Int => Value.int .i64 n) (fun q : Value × List Nat => q.1) L, bun (L.map (rowI 3)),
   Hp.row 77 1 vv (V + 1) (vals V []), Hp.row 3 1 tv 0 [], Hp.row 3 1 uv us.length (iv us)]
set_option maxHeartbeats 8000000 in
set_option maxRecDepth 100000 in
theorem add_calls {W w : World} {Ps : List Res} {p V : Nat} {CV : List (Value × List Int)} {L : List (Int × (Value × List Nat))} {us : List Int} {em : Bool} (h : Has W w (engR p V CV L [] 0 us em :: Ps)) (hV : V ≤ 65536)
    {F : List (List Int)} (hE : Eng V F (CV.map (·.2)) (wl L) us em) (hS : F.length ≤ 900000) {a : Option Addr} {cc : Nat} {c : List Int} (hc : IntsSrc W Ps a cc c) (hlc : c.length ≤ 1000000) (hcV : ∀ x ∈ c, x ≠ 0 ∧ x.natAbs ≤ V) :
    Calls Try.prog 46 #[.pointer (some ⟨p, 0, none⟩), .slice a c.length cc] w (AddPost W Ps V F p c) := by
  have hri := hc _ _ h fun P hP => List.mem_cons_of_mem _ hP
  have HCL := Lib.hid (Clone_h h (xs := iv c) hri (iv_one c) hlc)
  have HE := Lib.hid hE
  have HLC := Lib.hid hlc
  have HCV := Lib.hid hcV
  have hcvl : CV.length ≤ 900000 := by
    have h1 := hE.hperm.1
    have h2 := bigs_len F
    simp only [List.length_map] at h1
    omega
  have hul : us.length ≤ 900000 := by rw [hE.hus]; exact Nat.le_trans (ones_len F) hS
  clear hri h hE hlc hcV hc hS
  go_enter Try.func46, Try.ntmps46
  go_wp2_with fail
  refine HCL.out.mono ?_
  rintro e w2 ⟨v1, rfl, h2⟩
  obtain ⟨va, vc, rfl, hv0, hv1⟩ := owns_form2 h2.row
  have H2 := Lib.hid h2
  clear h2 HCL
  by_cases hre : c.length = 0
  · obtain rfl : c = [] := List.eq_nil_of_length_eq_zero hre
    go_wp2_with fail
    refine Sort_e.mono ?_
    rintro e w3 ⟨rfl, rfl⟩
    go_wp2_with fail
    refine Compact_e.mono ?_
    rintro e w3 ⟨rfl, rfl⟩
    obtain ⟨mb, cv, uv, vv, tv, h⟩ := eng_open H2.out.drop
    simp only [engL, List.cons_append, List.nil_append] at h
    have hb := h.blk
    have z3 := heap_eq_frozen hb 3
    have c3 : _ = some _ := heap_eq_cell hb 3
    have cl := lt_of_block hb
    have H3 := Lib.hid h
    clear h hb H2
    go_wp2
    go_loopg [15] 0 (fun gg z wr => z = .int .i64 0 ∧ wr = w3)
    case atStart => exact ⟨rfl, rfl⟩
    case round =>
      obtain ⟨rfl, rfl⟩ := hrel
      go_wp2
      go_end0
      refine ⟨CV, L, us, true, rfl, eng_close (mb := mb) (cv := cv) (uv := uv) (vv := vv) (tv := tv) ?_, HE.out.nil dd_nil⟩
      simp only [engL, List.cons_append, List.nil_append]
      exact (H3.out.blkSet 3 (.bool true)).step (by (repeat first | exact Fr.refl _ _ | assumption | apply Fr.n | apply Fr.d | apply Fr.a | refine Fr.s ?_ (.inr (by simp; try omega)) _))
  · obtain ⟨g1, rfl⟩ : ∃ g1, va = some ⟨g1, 0, none⟩ := by
      cases va with
      | none => have := (hv0 rfl).1; omega
      | some ad => obtain ⟨q, rfl⟩ := hv1 ad rfl; exact ⟨q, rfl⟩
    clear hv0 hv1
    go_wp2_with fail
    refine (Sort_h H2.out rfl HLC.out).mono ?_
    rintro e w3 ⟨rfl, h3⟩
    have H3 := Lib.hid h3
    clear h3 H2
    go_wp2_with fail
    refine (Compact_h H3.out rfl HLC.out).mono ?_
    rintro e w4 ⟨rfl, h4⟩
    have H4 := Lib.hid h4
    clear h4 H3
    obtain ⟨l, hl⟩ : ∃ l, dd c = l := ⟨_, rfl⟩
    have hlV : ∀ x ∈ l, x ≠ 0 ∧ x.natAbs ≤ V := fun x hx => HCV.out x ((ddm c x).1 (by rw [hl]; exact hx))
    have hdl : l.length ≤ 1000000 := by rw [← hl]; exact Nat.le_trans (dd_len c) HLC.out
    rw [hl] at H4 ⊢
    have HL := Lib.hid hl
    have HLV := Lib.hid hlV
    have hl0 : l.length ≠ 0 := by
      intro e
      have h1 : l = [] := List.eq_nil_of_length_eq_zero e
      rw [h1] at hl
      rw [(d_nil_iff ddm).1 hl] at hre
      exact hre rfl
    obtain ⟨n, hn⟩ : ∃ n, l.length = n := ⟨_, rfl⟩
    have HN := Lib.hid hn
    have hlvc := owns_cap H4.out.row
    rw [hn] at hl0 hdl hlvc ⊢
    clear hl hlV hre hn
    go_wp2
    go_loopg [15] n (fun gg z wr => ∃ i : Nat, i ≤ n ∧ n - i ≤ gg ∧ z = .int .i64 (i : Int) ∧ Hid (∀ x ∈ l.take i, 0 < x → -x ∉ l) ∧ Hid (Has W wr (Hp.row 3 1 (.slice (some ⟨g1, 0, none⟩) l.length vc) l.length (iv l) :: engR p V CV L [] 0 us em :: Ps)))
    case atStart => exact ⟨0, Nat.zero_le _, by omega, rfl, Lib.hid (by simp), Lib.hid (H4.out.step (by (repeat first | exact Fr.refl _ _ | assumption | apply Fr.n | apply Fr.d | apply Fr.a | refine Fr.s ?_ (.inr (by simp; try omega)) _)))⟩
    case round =>
      obtain ⟨i, hi, hgg, rfl, HF, HI⟩ := hrel
      clear H4
      by_cases hin : i < n
      · obtain ⟨x, hx⟩ : ∃ x, l[i]? = some x := ⟨_, List.getElem?_eq_getElem (by rw [HN.out]; exact hin)⟩
        have hr := HI.out.row
        have rx := owns_cell hr rfl (iv_get hx)
        have rl := owns_lt hr rfl
        have hxV := HLV.out x (List.mem_of_getElem? hx)
        have hw1 : IntKind.i64.wrap (-x) = -x := IntWalk.i64_in _ (by omega)
        have HX := Lib.hid hx
        have hri := HI.out.rowReads
        have HCO := Lib.hid (fun w1 (hf : Fr [] wr w1) => Contains_i (x := -x) (by rw [HN.out]; exact hdl) (Reads.fr hri hf))
        have htk : ∀ y ∈ l.take (i + 1), y ∈ l.take i ∨ y = x := fun y hy => by
          rw [List.take_add_one, hx] at hy
          simpa using hy
        have HTK := Lib.hid htk
        clear hr hx hri htk
        by_cases hpos : 0 < x
        · have hp1 : decide (x > 0) = true := by simpa using hpos
          obtain ⟨ct, hct⟩ : ∃ b, l.contains (-x) = b := ⟨_, rfl⟩
          rw [hct, HN.out] at HCO
          have HCT := Lib.hid hct
          clear hct
          go_wp2_with fail
          refine (HCO.out _ (by (repeat first | exact Fr.refl _ _ | assumption | apply Fr.n | apply Fr.d | apply Fr.a | refine Fr.s ?_ (.inr (by simp; try omega)) _))).mono ?_
          rintro e w5 ⟨rfl, hw5⟩
          subst hw5
          cases ct with
          | true =>
            have hm : -x ∈ l := by simpa using HCT.out
            have HT := Lib.hid (HE.out.taut HCV.out HL.out (taut_of (List.mem_of_getElem? HX.out) hm))
            clear hm rx rl HCO
            go_wp2
            refine bodyPost_ret (results_none rfl _ _ _) rfl ?_
            exact ⟨CV, L, us, em, rfl, HI.out.drop.step (by (repeat first | exact Fr.refl _ _ | assumption | apply Fr.n | apply Fr.d | apply Fr.a | refine Fr.s ?_ (.inr (by simp; try omega)) _)), HT.out⟩
          | false =>
            have hm : -x ∉ l := fun e => by
              have := HCT.out
              rw [List.contains_iff_mem.2 e] at this; cases this
            have HM := Lib.hid hm
            clear hm rx rl HCO
            go_wp2
            go_roundg (n - (i + 1))
            case measure => omega
            case rel =>
              refine ⟨i + 1, hin, Nat.le_refl _, by simp, Lib.hid (fun y hy hp => ?_), HI.out.step (by (repeat first | exact Fr.refl _ _ | assumption | apply Fr.n | apply Fr.d | apply Fr.a | refine Fr.s ?_ (.inr (by simp; try omega)) _))⟩
              rcases HTK.out y hy with h | rfl
              · exact HF.out y h hp
              · exact HM.out
        · have hp1 : decide (x > 0) = false := by simpa using hpos
          clear rl HCO
          go_wp2
          go_roundg (n - (i + 1))
          case measure => omega
          case rel =>
            refine ⟨i + 1, hin, Nat.le_refl _, by simp, Lib.hid (fun y hy hp => ?_), HI.out.step (by (repeat first | exact Fr.refl _ _ | assumption | apply Fr.n | apply Fr.d | apply Fr.a | refine Fr.s ?_ (.inr (by simp; try omega)) _))⟩
            rcases HTK.out y hy with h | rfl
            · exact HF.out y h hp
            · omega
      · obtain rfl : i = n := by omega
        have hnt : tautB l = false := by
          cases ht : tautB l with
          | false => rfl
          | true =>
            obtain ⟨x, hx, hp, hxn⟩ := taut_find (fun y hy => (HLV.out y hy).1) ht
            have := HF.out x (by rw [List.take_of_length_le (by rw [HN.out]; exact Nat.le_refl _)]; exact hx) hp
            exact absurd hxn this
        have HNT := Lib.hid hnt
        clear hnt HF
        obtain ⟨mb, cv, uv, vv, tv, h⟩ := eng_open HI.out.swap
        simp only [engL, List.cons_append, List.nil_append] at h
        have hr := (h.bring 8).row
        have rl := owns_lt hr rfl
        by_cases h1 : i = 1
        · subst h1
          obtain ⟨x, rfl⟩ : ∃ x, l = [x] := List.length_eq_one_iff.1 HN.out
          have r0 : _ = some (Value.int .i64 x) := owns_cell hr rfl (j := 0) rfl
          have hb := h.blk
          have c2 : _ = some _ := heap_eq_cell hb 2
          have z2 := heap_eq_frozen hb 2
          have cl := lt_of_block hb
          obtain ⟨ua, uc, rfl, _, _⟩ := owns_form2 (h.bring 7).row
          obtain ⟨m, hm⟩ : ∃ m, us.length = m := ⟨_, rfl⟩
          have HM := Lib.hid hm
          rw [hm] at c2 hul h
          have hmaxl : (900002 : Nat) ≤ maxLen := by decide
          have HLL := Lib.hid (show m + 1 ≤ maxLen ∧ (m + 1) * 8 ≤ 140737488355328 from by omega)
          have H7 := Lib.hid (h.bring 7)
          have HO := Lib.hid (HE.out.one HCV.out HL.out)
          clear hr hb h HI hm hmaxl
          go_wp2
          go_upto_region 16 with fail
          (refine wp_region_text (by kernel_rfl) (by kernel_rfl) ?_)
          go_wp2_with (at_builtin; refine append_has (W := W) (size := 1) (bytes := 8) (z := .int .i64 0) (e := 3) (n := m) (xs := iv us) (news := [.int .i64 x]) rfl rfl Try.underlying25 (by kernel_rfl) rfl (by decide) rfl rfl (H7.out.step (by (repeat first | exact Fr.refl _ _ | assumption | apply Fr.n | apply Fr.d | apply Fr.a | refine Fr.s ?_ (.inr (by simp; try omega)) _))) (by (repeat first | rw [if_pos (by omega)] | rw [if_neg (by omega)] | rw [hp_drew] | rw [hp_drewN] | rw [hp_alloc_size] | rw [hp_setCell_size] | rw [hp_alloc] | rw [hp_setCell] | rw [oMS] | rw [upd_cells] | rw [lSZ] | rw [lSS] | rfl)) rfl (by simp [Value.oneCell']) HLL.out.1 HLL.out.2 ?_)
          intro g2 cap2 w9 h9 hf9 hg9
          clear c2 z2 cl r0 rl
          have hb := (h9.bring 1).blk
          have c2 : _ = some _ := heap_eq_cell hb 2
          have z2 := heap_eq_frozen hb 2
          have cl := lt_of_block hb
          have H9 := Lib.hid h9
          clear h9 hb hf9 hg9 H7
          go_wp2
          refine Strict.intro rfl ?_
          go_wp2
          go_end0
          refine ⟨CV, L, us ++ [x], em, rfl, eng_close (mb := mb) (cv := cv) (uv := .slice (some ⟨g2, 0, none⟩) (m + 1) cap2) (vv := vv) (tv := tv) ?_, HO.out⟩
          have h10 := ((H9.out.bring 1).blkSet 2 (.slice (some ⟨g2, 0, none⟩) (m + 1) cap2)).ord 9 [0, 2, 3, 4, 5, 6, 7, 1]
          simp only [engL, List.cons_append, List.nil_append]
          rw [List.length_append, HM.out, show iv (us ++ [x]) = iv us ++ [.int .i64 x] by simp [iv]]
          exact h10.step (by (repeat first | exact Fr.refl _ _ | assumption | apply Fr.n | apply Fr.d | apply Fr.a | refine Fr.s ?_ (.inr (by simp; try omega)) _))
        · have hl2 : 2 ≤ i := by omega
          have h01 : (i == 0) = false := by simpa using hl0
          have h11 : (i == 1) = false := by simpa using h1
          obtain ⟨ca, cc2, rfl, _, _⟩ := owns_form2 (h.bring 1).row
          obtain ⟨m, hm⟩ : ∃ m, CV.length = m := ⟨_, rfl⟩
          have hml : (CV.map (·.1)).length = m := by rw [List.length_map, hm]
          have hmaxl : (900002 : Nat) ≤ maxLen := by decide
          have HLY := Lib.hid (show m + 1 ≤ maxLen ∧ (m + 1) * 24 ≤ 140737488355328 from by omega)
          have hm9 : m ≤ 900000 := by omega
          rw [hm] at h
          have hb := h.blk
          have c0 : _ = some _ := heap_eq_cell hb 0
          have z0 := heap_eq_frozen hb 0
          have cl := lt_of_block hb
          have H10 := Lib.hid (h.ord 9 [1, 8, 0, 2, 3, 4, 5, 6, 7])
          have HML := Lib.hid (And.intro hm hml)
          have hwl0 : ∀ y, (wl L y).length ≤ 900000 := fun y => by
            have h1 := wt_len HE.out.hwt y
            rw [List.length_map, hm] at h1
            omega
          have HWL := Lib.hid hwl0
          clear h hb hm hml hmaxl HI hwl0 hr
          go_wp2_with (at_builtin; refine append_has (W := W) (size := 1) (bytes := 24) (z := .slice none 0 0) (e := 25) (n := m) (xs := CV.map (·.1)) (news := [.slice (some ⟨g1, 0, none⟩) i vc]) rfl rfl Try.underlying22 (by kernel_rfl) rfl (by decide) rfl rfl (H10.out.step (by (repeat first | exact Fr.refl _ _ | assumption | apply Fr.n | apply Fr.d | apply Fr.a | refine Fr.s ?_ (.inr (by simp; try omega)) _))) (by (repeat first | rw [if_pos (by omega)] | rw [if_neg (by omega)] | rw [hp_drew] | rw [hp_drewN] | rw [hp_alloc_size] | rw [hp_setCell_size] | rw [hp_alloc] | rw [hp_setCell] | rw [oMS] | rw [upd_cells] | rw [lSZ] | rw [lSS] | rfl)) rfl (by simp [Value.oneCell']) HLY.out.1 HLY.out.2 ?_)
          intro g2 cap2 w5 h5 hf5 hg5
          have hb5 := (h5.bring 2).blk
          clear c0 z0 cl rl
          have c0 : _ = some _ := heap_eq_cell hb5 0
          have z0 := heap_eq_frozen hb5 0
          have cl := lt_of_block hb5
          obtain ⟨hs, hhs⟩ : ∃ hs, CV.map (·.1) ++ [Value.slice (some ⟨g1, 0, none⟩) i vc] = hs := ⟨_, rfl⟩
          have HHS := Lib.hid hhs
          have hsl : hs.length = m + 1 := by rw [← hhs, List.length_append, HML.out.2]; rfl
          have h6 : Has W (w5.setCell ⟨p, 0, none⟩ (.slice (some ⟨g2, 0, none⟩) (m + 1) cap2)) (newL p V g1 vc l CV hs L mb (.slice (some ⟨g2, 0, none⟩) (m + 1) cap2) uv vv tv us em ++ Ps) := by
            have h7 := ((h5.bring 2).blkSet 0 (.slice (some ⟨g2, 0, none⟩) (m + 1) cap2)).ord 9 [2, 0, 1, 3, 4, 5, 6, 7, 8]
            unfold newL
            rw [hsl, ← hhs]
            exact h7
          have HSL := Lib.hid hsl
          have H6 := Lib.hid h6
          clear hhs hsl h6 h5 hb5 hf5 hg5 H10
          go_upto_region 11 with fail
          refine abs_world (fun w' => Has W w' (newL p V g1 vc l CV hs L mb (.slice (some ⟨g2, 0, none⟩) (m + 1) cap2) uv vv tv us em ++ Ps)) H6.out ?_
          intro w6 h6
          clear H6 c0 z0 cl
          have H6 := Lib.hid h6
          clear h6
          obtain ⟨y0, hy0⟩ : ∃ y, l[0]? = some y := ⟨_, List.getElem?_eq_getElem (by rw [HN.out]; omega)⟩
          have HY0 := Lib.hid hy0
          have hr1 := owns_cell H6.out.row rfl (iv_get hy0)
          have hrl := owns_lt H6.out.row rfl
          have hb := (H6.out.bring 1).blk
          have c1 : _ = some _ := heap_eq_cell hb 1
          have cl := lt_of_block hb
          have HMP0 := Lib.hid (H6.out.bring 4).map
          have h5 := (H6.out.bring 5).pickKey y0
          have hly : (wl L y0).length ≤ 900001 := (Nat.le_succ_of_le (HWL.out _))
          have hmaxl : (900002 : Nat) ≤ maxLen := by decide
          have HLL0 := Lib.hid (show (wl L y0).length + 1 ≤ maxLen ∧ ((wl L y0).length + 1) * 8 ≤ 140737488355328 from by omega)
          have HP0 := Lib.hid h5
          clear hb h5 hly hmaxl hy0
          go_upto_region 11 with fail
          refine wp_region_segs [([0, 1, 2, 3, 4, 5, 6, 7, 8, 9, 10, 11, 12, 13, 14, 15, 16, 17], [3, 6]), ([18], [])] (by kernel_rfl) (by kernel_rfl) ?_
          (simp only [wpSegs, pick, Array.getD_eq_getD_getElem?, List.getElem?_toArray, List.getElem?_cons_succ, List.getElem?_cons_zero, Option.getD_some])
          go_wp2_with (first | (at_lookup; refine wpList_lookup_wv (f := fun n : Int => Value.int .i64 n) (L := L) (k := y0) rfl rfl rfl rfl (HMP0.out) Try.underlying57 keysI (by kernel_rfl) ?_) | (at_builtin; refine append_has (W := W) (size := 1) (bytes := 8) (z := .int .i64 0) (e := 3) (n := (wl L y0).length) (xs := nv (wl L y0)) (news := [.int .i64 (m : Int)]) rfl rfl Try.underlying25 (by kernel_rfl) rfl (by decide) rfl rfl (HP0.out.step (by (repeat first | exact Fr.refl _ _ | assumption | apply Fr.n | apply Fr.d | apply Fr.a | refine Fr.s ?_ (.inr (by simp; try omega)) _))) (by (repeat first | rw [if_pos (by omega)] | rw [if_neg (by omega)] | rw [hp_drew] | rw [hp_drewN] | rw [hp_alloc_size] | rw [hp_setCell_size] | rw [hp_alloc] | rw [hp_setCell] | rw [oMS] | rw [upd_cells] | rw [lSZ] | rw [lSS] | rfl)) rfl (by simp [Value.oneCell']) HLL0.out.1 HLL0.out.2 ?_))
          intro g30 cap30 w90 h9 hf9 hg9
          clear c1 cl hr1 hrl
          have hb := (h9.bring 3).blk
          have c1 : _ = some _ := heap_eq_cell hb 1
          have cl := lt_of_block hb
          have hr1 := owns_cell (h9.bring 2).row rfl (iv_get HY0.out)
          have hrl := owns_lt (h9.bring 2).row rfl
          have HMP90 := Lib.hid (h9.bring 6).map
          have HQ0 := Lib.hid h9
          clear h9 hb hf9 HP0 HMP0
          go_wp2
          refine Mid.intro ⟨⟨again_cell (T := 57) rfl rfl rfl Try.underlying57 rfl c1 rfl, again_cell (T := 3) rfl rfl rfl Try.underlying3 rfl hr1 rfl, trivial⟩, ?_⟩
          go_wp2_with (at_mapUpdate; refine wpList_update_wl (f := fun n : Int => Value.int .i64 n) (L := L) (k := y0) (wl L y0 ++ [m]) rfl rfl rfl rfl rfl (HMP90.out) Try.underlying57 keysI ?_)
          intro w100 hm10 hf10 hs10
          have h10 := ((HQ0.out.bring 6).mapped hm10 hf10).ord 10 [1, 2, 0, 3, 4, 5, 6, 7, 8, 9]
          have h11 := Has.nvSnoc (k := m) (l := wl L y0) h10
          have h12 := (Has.layKey (L := L) (k := y0) h11).ord 9 [2, 3, 4, 5, 1, 0, 6, 7, 8]
          have HZ0 := Lib.hid h12
          obtain ⟨L10, hL0⟩ : ∃ L', put L y0 (.slice (some ⟨g30, 0, none⟩) ((wl L y0).length + 1) cap30, wl L y0 ++ [m]) = L' := ⟨_, rfl⟩
          rw [hL0] at HZ0
          have HR0 := Lib.hid (show Has W w100 (newL p V g1 vc l CV hs L10 mb (.slice (some ⟨g2, 0, none⟩) (m + 1) cap2) uv vv tv us em ++ Ps) from HZ0.out)
          have HLE0 := Lib.hid (show wl L10 = Sv.upd (wl L) y0 (wl L y0 ++ [m]) from by rw [← hL0, wl_upd])
          clear h10 h11 h12 HQ0 HMP90 hm10 hf10 hs10 c1 cl hr1 hrl hL0 HZ0
          go_wp2
          refine Mid.intro ⟨trivial, Strict.intro rfl ?_⟩
          have HWL1 := Lib.hid (fun y => show (wl L10 y).length ≤ 900001 from by
            rw [HLE0.out]
            unfold Sv.upd
            have h1 := HWL.out y0
            have h2 := HWL.out y
            split
            · rw [List.length_append]; simp; omega
            · omega)
          obtain ⟨y1, hy1⟩ : ∃ y, l[1]? = some y := ⟨_, List.getElem?_eq_getElem (by rw [HN.out]; omega)⟩
          have HY1 := Lib.hid hy1
          have hr1 := owns_cell HR0.out.row rfl (iv_get hy1)
          have hrl := owns_lt HR0.out.row rfl
          have hb := (HR0.out.bring 1).blk
          have c1 : _ = some _ := heap_eq_cell hb 1
          have cl := lt_of_block hb
          have HMP1 := Lib.hid (HR0.out.bring 4).map
          have h5 := (HR0.out.bring 5).pickKey y1
          have hly : (wl L10 y1).length ≤ 900001 := (HWL1.out _)
          have hmaxl : (900002 : Nat) ≤ maxLen := by decide
          have HLL1 := Lib.hid (show (wl L10 y1).length + 1 ≤ maxLen ∧ ((wl L10 y1).length + 1) * 8 ≤ 140737488355328 from by omega)
          have HP1 := Lib.hid h5
          clear hb h5 hly hmaxl hy1
          go_upto_region 12 with fail
          refine wp_region_segs [([0, 1, 2, 3, 4, 5, 6, 7, 8, 9, 10, 11, 12, 13, 14, 15, 16, 17], [3, 6]), ([18], [])] (by kernel_rfl) (by kernel_rfl) ?_
          (simp only [wpSegs, pick, Array.getD_eq_getD_getElem?, List.getElem?_toArray, List.getElem?_cons_succ, List.getElem?_cons_zero, Option.getD_some])
          go_wp2_with (first | (at_lookup; refine wpList_lookup_wv (f := fun n : Int => Value.int .i64 n) (L := L10) (k := y1) rfl rfl rfl rfl (HMP1.out) Try.underlying57 keysI (by kernel_rfl) ?_) | (at_builtin; refine append_has (W := W) (size := 1) (bytes := 8) (z := .int .i64 0) (e := 3) (n := (wl L10 y1).length) (xs := nv (wl L10 y1)) (news := [.int .i64 (m : Int)]) rfl rfl Try.underlying25 (by kernel_rfl) rfl (by decide) rfl rfl (HP1.out.step (by (repeat first | exact Fr.refl _ _ | assumption | apply Fr.n | apply Fr.d | apply Fr.a | refine Fr.s ?_ (.inr (by simp; try omega)) _))) (by (repeat first | rw [if_pos (by omega)] | rw [if_neg (by omega)] | rw [hp_drew] | rw [hp_drewN] | rw [hp_alloc_size] | rw [hp_setCell_size] | rw [hp_alloc] | rw [hp_setCell] | rw [oMS] | rw [upd_cells] | rw [lSZ] | rw [lSS] | rfl)) rfl (by simp [Value.oneCell']) HLL1.out.1 HLL1.out.2 ?_))
          intro g31 cap31 w91 h9 hf9 hg9
          clear c1 cl hr1 hrl
          have hb := (h9.bring 3).blk
          have c1 : _ = some _ := heap_eq_cell hb 1
          have cl := lt_of_block hb
          have hr1 := owns_cell (h9.bring 2).row rfl (iv_get HY1.out)
          have hrl := owns_lt (h9.bring 2).row rfl
          have HMP91 := Lib.hid (h9.bring 6).map
          have HQ1 := Lib.hid h9
          clear h9 hb hf9 HP1 HMP1
          go_wp2
          refine Mid.intro ⟨⟨again_cell (T := 57) rfl rfl rfl Try.underlying57 rfl c1 rfl, again_cell (T := 3) rfl rfl rfl Try.underlying3 rfl hr1 rfl, trivial⟩, ?_⟩
          go_wp2_with (at_mapUpdate; refine wpList_update_wl (f := fun n : Int => Value.int .i64 n) (L := L10) (k := y1) (wl L10 y1 ++ [m]) rfl rfl rfl rfl rfl (HMP91.out) Try.underlying57 keysI ?_)
          intro w101 hm10 hf10 hs10
          have h10 := ((HQ1.out.bring 6).mapped hm10 hf10).ord 10 [1, 2, 0, 3, 4, 5, 6, 7, 8, 9]
          have h11 := Has.nvSnoc (k := m) (l := wl L10 y1) h10
          have h12 := (Has.layKey (L := L10) (k := y1) h11).ord 9 [2, 3, 4, 5, 1, 0, 6, 7, 8]
          have HZ1 := Lib.hid h12
          obtain ⟨L11, hL1⟩ : ∃ L', put L10 y1 (.slice (some ⟨g31, 0, none⟩) ((wl L10 y1).length + 1) cap31, wl L10 y1 ++ [m]) = L' := ⟨_, rfl⟩
          rw [hL1] at HZ1
          have HR1 := Lib.hid (show Has W w101 (newL p V g1 vc l CV hs L11 mb (.slice (some ⟨g2, 0, none⟩) (m + 1) cap2) uv vv tv us em ++ Ps) from HZ1.out)
          have HLE1 := Lib.hid (show wl L11 = Sv.upd (wl L10) y1 (wl L10 y1 ++ [m]) from by rw [← hL1, wl_upd])
          clear h10 h11 h12 HQ1 HMP91 hm10 hf10 hs10 c1 cl hr1 hrl hL1 HZ1
          go_wp2
          refine Mid.intro ⟨trivial, Strict.intro rfl ?_⟩
          have hfin := HE.out.big HCV.out HL.out HNT.out (by rw [HN.out]; exact hl2) HY0.out HY1.out
          have hne : y1 ≠ y0 := by
            rintro rfl
            obtain ⟨_, e1⟩ := List.getElem?_eq_some_iff.1 HY0.out
            obtain ⟨_, e2⟩ := List.getElem?_eq_some_iff.1 HY1.out
            have hnd : l.Nodup := by rw [← HL.out]; exact dd_nodup c
            have := (List.getElem_inj hnd).1 (e1.trans e2.symm)
            omega
          rw [List.length_map, HML.out.1] at hfin
          have hwe : wl L11 = Sv.upd (Sv.upd (wl L) y0 (wl L y0 ++ [m])) y1 (wl L y1 ++ [m]) := by
            rw [HLE1.out, HLE0.out, show Sv.upd (wl L) y0 (wl L y0 ++ [m]) y1 = wl L y1 from if_neg hne]
          rw [← hwe] at hfin
          have HFIN := Lib.hid hfin
          have h6 := HR1.out
          have h7 := (Has.layNew (R := rowC) (l := CV) (b := (.slice (some ⟨g1, 0, none⟩) l.length vc, l)) (h6.ord 9 [0, 3, 1, 2, 4, 5, 6, 7, 8])).ord 8 [1, 2, 0, 3, 4, 5, 6, 7]
          clear h6
          have H7 := Lib.hid h7
          clear h7 hfin hwe hne
          go_wp2
          go_end0
          refine ⟨CV ++ [(.slice (some ⟨g1, 0, none⟩) l.length vc, l)], L11, us, em, rfl, eng_close (mb := mb) (cv := .slice (some ⟨g2, 0, none⟩) (m + 1) cap2) (uv := uv) (vv := vv) (tv := tv) ?_, ?_⟩
          · unfold engL
            rw [List.map_append, show [((Value.slice (some ⟨g1, 0, none⟩) l.length vc, l) : Value × List Int)].map (·.1) = [Value.slice (some ⟨g1, 0, none⟩) l.length vc] from rfl, HN.out, HHS.out, List.length_append, HML.out.1, show [((Value.slice (some ⟨g1, 0, none⟩) i vc, l) : Value × List Int)].length = 1 from rfl]
            have h8 := H7.out
            unfold newL at h8
            rw [HSL.out, HN.out] at h8
            exact h8.step (by (repeat first | exact Fr.refl _ _ | assumption | apply Fr.n | apply Fr.d | apply Fr.a | refine Fr.s ?_ (.inr (by simp; try omega)) _))
          · rw [List.map_append]; exact HFIN.out
end Go.Proofs.Ytbpaadpocihahaa
end

section
/- refute: an engine with the clauses of a formula. -/
namespace Go.Proofs.Ytbpaadpocihahaa
open Go Go.RowKit Go.Proofs.Rg Go.Proofs.Mp Go.Proofs.Hp Go.Proofs.Sv Go.Proofs.Rp
set_option linter.unusedVariables false
set_option linter.unusedSimpArgs false
set_option maxHeartbeats 4000000 in
theorem newEngine_calls {W w : World} {Ps : List Res} (h : Has W w Ps) {V : Nat} (hV : V ≤ 65536) :
    Calls Try.prog 45 #[.int .i64 (V : Int)] w fun e w' => ∃ p, e = .returned (.pointer (some ⟨p, 0, none⟩)) ∧ Has W w' (engR p V [] [] [] 0 [] false :: Ps) := by
  have hmm := @run_makeMap Try.prog
  have H := Lib.hid h
  have hw1 : (V : Int) + 1 = ((V + 1 : Nat) : Int) := by omega
  have hml : (65537 : Nat) ≤ maxLen := by decide
  have HB := Lib.hid (show 1 * (V + 1) ≤ 281474976710656 ∧ V + 1 ≤ maxLen by omega)
  have HW1 := Lib.hid hw1
  clear h hml hw1
  go_enter Try.func45, Try.ntmps45
  go_wp2_with (refine wpList_make1 (n := V + 1) (z := .int .i8 0) (bytes := 1) (e := 77) rfl rfl (congrArg (Value.int .i64) HW1.out) (congrArg (Value.int .i64) HW1.out) Try.underlying58 (by kernel_rfl) rfl HB.out.1 HB.out.2 ?_)
  intro w1 hrow1 hf1 hs1
  have h1 := (has_mapT (κ := Int) (ν := Value × List Nat) (f := fun n : Int => Value.int .i64 n) (g := fun q : Value × List Nat => q.1) H.out)
  have h2 := h1.newRow hf1 (by rw [hp_alloc_size]; exact hrow1)
  have h3 := h2.newBlk (.cells #[.slice none 0 0, .map (some w.heap.size), .slice none 0 0, .bool false, .slice (some ⟨w.heap.size + 1, 0, none⟩) (V + 1) (V + 1), .slice none 0 0, .int .i64 0] 60 (0, 0))
  have h4 := (((((h3.nilRow 25 1).bunNil).bunNil).nilRow 3 1).nilRow 3 1).ord 8 [5, 4, 3, 7, 2, 6, 1, 0]
  have h5 : Has W _ (engR w1.heap.size V [] [] [] 0 [] false :: Ps) := eng_close (mb := w.heap.size) (cv := .slice none 0 0) (uv := .slice none 0 0) (vv := .slice (some ⟨w.heap.size + 1, 0, none⟩) (V + 1) (V + 1)) (tv := .slice none 0 0) (by
    simp only [engL, List.cons_append, List.nil_append]
    rw [vals_nil]
    exact h4)
  have H5 := Lib.hid h5
  clear h1 h2 h3 h4 h5 hrow1 hf1 hs1 H
  go_wp2
  go_ret
  exact ⟨_, rfl, H5.out.step (by (repeat first | exact Fr.refl _ _ | assumption | apply Fr.n | apply Fr.d | apply Fr.a | refine Fr.s ?_ (.inr (by simp; try omega)) _))⟩
def WithPost (W : World) (Ps : List Res) (V : Nat) (F : List (List Int)) (e : Ending) (w' : World) : Prop :=
  ∃ p CV L us em, e = .returned (.pointer (some ⟨p, 0, none⟩)) ∧ Has W w' (engR p V CV L [] 0 us em :: Ps) ∧ Eng V F (CV.map (·.2)) (wl L) us em
def WithInv (W : World) (Ps : List Res) (V : Nat) (F : List (List Int)) (p : Nat) (wr : World) : Prop :=
  ∃ CV L us em, Has W wr (engR p V CV L [] 0 us em :: Ps) ∧ Eng V F (CV.map (·.2)) (wl L) us em
/-- one clause of a formula that can be read -/
theorem FormHs.row {W : World} {Ps : List Res} {a : Option Addr} {c : Nat} {vs : List Value} {cs : List (List Int)} (h : FormHs W Ps a c vs cs) {w : World} {Qs : List Res} (hw : Has W w Qs) (hP : ∀ P ∈ Ps, P ∈ Qs) {i : Nat} {r : List Int} (hr : cs[i]? = some r) :
    ∃ ra rc g off, a = some ⟨g, off, none⟩ ∧ g < w.heap.size ∧ w.cell? ⟨g, off + i, none⟩ = some (.slice ra r.length rc) ∧ IntsSrc W Ps ra rc r := by
  obtain ⟨⟨hl, a', c', he, hp⟩, h2⟩ := h.1 w Qs hw hP
  cases he
  obtain ⟨u, hu, hr2⟩ := h2 i r hr
  obtain ⟨ra, rc, rfl⟩ := hr2.form
  have hlt := (List.getElem?_eq_some_iff.1 hr).1
  obtain ⟨g, off, ha, hg, hc⟩ := hp (by omega)
  refine ⟨ra, rc, g, off, ha, hg, hc i _ hu, fun w' Qs' hw' hP' => ?_⟩
  obtain ⟨u2, hu2, hr3⟩ := (h.1 w' Qs' hw' hP').2 i r hr
  rw [hu] at hu2
  cases hu2
  exact hr3
set_option maxHeartbeats 4000000 in
theorem with_calls {W w : World} {Ps : List Res} (h : Has W w Ps) {V : Nat} {a : Option Addr} {c : Nat} {vs : List Value} {cs : List (List Int)} (hF : FormHs W Ps a c vs cs) (hr : rightF V cs = true) (hs : ∀ r ∈ cs, r.length ≤ 1000000) :
    Calls Try.prog 26 #[.agg #[.int .i64 (V : Int), .slice a cs.length c]] w (WithPost W Ps V cs) := by
  obtain ⟨hcl, hV, hlit⟩ := rightF_len hr
  have H := Lib.hid (h.newBlk (.cells #[.int .i64 (V : Int), .slice a cs.length c] 24 (0, 0)))
  have HF := Lib.hid hF
  have HS := Lib.hid hs
  have HL := Lib.hid hlit
  obtain ⟨n, hn⟩ : ∃ n, cs.length = n := ⟨_, rfl⟩
  rw [hn] at hcl H ⊢
  have HN := Lib.hid hn
  clear h hF hs hlit hr hn
  go_enter Try.func26, Try.ntmps26
  go_wp2_with fail
  refine (newEngine_calls H.out hV).mono ?_
  rintro e w1 ⟨p, rfl, h1⟩
  obtain ⟨fb, hfb⟩ : ∃ b, w.heap.size = b := ⟨_, rfl⟩
  rw [hfb] at h1 ⊢
  have hb := (h1.bring 1).blk
  have c1 : _ = some _ := heap_eq_cell hb 1
  have cl := lt_of_block hb
  have H1 := Lib.hid h1
  clear h1 hb hfb H
  go_wp2
  clear c1 cl
  go_loopg [12] n (fun gg z wr => ∃ i : Nat, i ≤ n ∧ n - i ≤ gg ∧ z = .int .i64 (i : Int) ∧ Hid (WithInv W (Hp.blk fb (.cells #[.int .i64 (V : Int), .slice a n c] 24 (0, 0)) :: Ps) V (cs.take i) p wr))
  case atStart => exact ⟨0, Nat.zero_le _, by omega, rfl, Lib.hid ⟨[], [], [], false, H1.out.step (by (repeat first | exact Fr.refl _ _ | assumption | apply Fr.n | apply Fr.d | apply Fr.a | refine Fr.s ?_ (.inr (by simp; try omega)) _)), Eng.start V⟩⟩
  case round =>
    obtain ⟨i, hi, hg, rfl, HI⟩ := hrel
    clear H1
    obtain ⟨CV, L, us, em, h, hE⟩ := HI.out
    by_cases hin : i < n
    · obtain ⟨r, hr⟩ : ∃ r, cs[i]? = some r := ⟨_, List.getElem?_eq_getElem (by rw [HN.out]; exact hin)⟩
      obtain ⟨ra, rc, g, off, rfl, hgl, hc, hsrc⟩ := HF.out.row h (fun P hP => by simp [hP]) hr
      have hrs := HS.out r (List.mem_of_getElem? hr)
      have htk : cs.take (i + 1) = cs.take i ++ [r] := by rw [List.take_add_one, hr]; rfl
      have HTK := Lib.hid htk
      have hFl : (cs.take i).length ≤ 900000 := by rw [List.length_take]; omega
      have HAD := Lib.hid (fun w' (hf : Fr [] wr w') => add_calls (h.step hf) hV hE hFl (hsrc.more (Rs := Hp.blk fb (.cells #[.int .i64 (V : Int), .slice (some ⟨g, off, none⟩) n c] 24 (0, 0)) :: Ps) fun P hP => by simp [hP]) hrs (HL.out r (List.mem_of_getElem? hr)))
      clear hr htk h hE HI hrs hFl hsrc
      go_wp2_with fail
      refine (HAD.out _ (by (repeat first | exact Fr.refl _ _ | assumption | apply Fr.n | apply Fr.d | apply Fr.a | refine Fr.s ?_ (.inr (by simp; try omega)) _))).mono ?_
      rintro e w2 ⟨CV2, L2, us2, em2, rfl, h2, hE2⟩
      have H2 := Lib.hid h2
      have HE2 := Lib.hid hE2
      clear h2 hE2 HAD hgl hc
      go_wp2
      go_roundg (n - (i + 1))
      case measure => omega
      case rel => exact ⟨i + 1, hin, Nat.le_refl _, by simp, Lib.hid ⟨CV2, L2, us2, em2, H2.out.step (by (repeat first | exact Fr.refl _ _ | assumption | apply Fr.n | apply Fr.d | apply Fr.a | refine Fr.s ?_ (.inr (by simp; try omega)) _)), by rw [HTK.out]; exact HE2.out⟩⟩
    · obtain rfl : i = n := by omega
      have hE2 := hE
      rw [List.take_of_length_le (by rw [HN.out]; exact Nat.le_refl _)] at hE2
      have HE2 := Lib.hid hE2
      have H1 := Lib.hid h
      clear hE2 hE h HI
      go_wp2
      go_ret
      exact ⟨p, CV, L, us, em, rfl, (H1.out.ord 2 [0]).step (by (repeat first | exact Fr.refl _ _ | assumption | apply Fr.n | apply Fr.d | apply Fr.a | refine Fr.s ?_ (.inr (by simp; try omega)) _)), HE2.out⟩
end Go.Proofs.Ytbpaadpocihahaa
end
