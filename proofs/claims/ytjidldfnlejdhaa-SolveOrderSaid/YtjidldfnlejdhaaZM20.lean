/- Own texts of this claim, part 21: no condition. -/
import Derived.Deep.RegionHeld3
import Derived.Deep.DeepCutAuto
import Derived.Test.YtjidldfnlejdhaaZM17
import Derived.Test.YtjidldfnlejdhaaZM18
import Derived.Test.YtjidldfnlejdhaaZM19
import Derived.Test.YtjidldfnlejdhaaZM10
import Derived.Test.YtjidldfnlejdhaaZM12
set_option linter.unusedVariables false
set_option linter.unusedSimpArgs false
section
/- solve: Next. -/
namespace Go.Proofs.Ytjidldfnlejdhaa
open Go Go.RowKit Go.Proofs.Rg Go.Proofs.Mp Go.Proofs.Hp Go.Proofs.Sv
set_option linter.unusedVariables false
set_option linter.unusedSimpArgs false
/-- the literal of a value -/
def fx (i : Nat) (b : Bool) : Int := if b then (i : Int) + 1 else -(i : Int) - 1
def fixL (l : List Bool) : List Int := l.zipIdx.map fun p => fx p.2 p.1
theorem fixL_len (l : List Bool) : (fixL l).length = l.length := by simp [fixL]
theorem fixL_snoc (l : List Bool) (b : Bool) : fixL (l ++ [b]) = fixL l ++ [fx l.length b] := by simp [fixL, List.zipIdx_append]
theorem fixL_take (l : List Bool) (k : Nat) : (fixL l).take k = fixL (l.take k) := by
  unfold fixL
  rw [← List.map_take]
  congr 1
  apply List.ext_getElem?
  intro i
  rw [List.getElem?_take]
  by_cases h : i < k
  · rw [if_pos h, List.getElem?_zipIdx, List.getElem?_zipIdx, List.getElem?_take_of_lt h]
  · rw [if_neg h]
    symm
    rw [List.getElem?_eq_none]
    simp; omega
theorem iv_append2 (l r : List Int) : iv (l ++ r) = iv l ++ iv r := by simp [iv]
theorem row2_at {w : World} {b T : Nat} {x y : Value} (h : w.heap[b]? = some (.cells #[x, y] T (0, 0))) : w.rangeAt b 0 [x, y] := fun j v hj => by
  rw [Nat.zero_add, heap_eq_cell h, ← hj]
  exact (Array.getElem?_toList (xs := #[x, y])).symm
theorem append_hasS {P : Program} {ops : Array Oper} {o : Oper} {a : Act} {W w : World} {Ps : List Res} {K : Act → World → Prop} {Q : Exit → Act → World → Prop} {E : Prop} (hgd : o.guard = none) {s x : Operand} {t : TypeId}
    (ho : o.op = .call { callee := .builtin .append, args := #[s, x], argTypes := #[t, t] }) {e : Nat} {z : Value} {size bytes : Nat} (ht : P.underlying t = some (.slice e)) (hinfo : (P.info? e).map (fun i => (i.zero, i.size, i.bytes)) = some (some z, size, bytes))
    (hzs : z.cells.size = size) (hsz : 0 < size) {v : Value} {n : Nat} {xs : List Value} (hs : a.eval s = v) {nb c : Nat} {news : List Value} {fr : Nat × Nat} (hx : a.eval x = .slice (some ⟨nb, 0, none⟩) 1 c)
    (h : Has W w (Hp.row e size v n xs :: Ps)) (hnb : w.heap[nb]? = some (.cells news.toArray e fr)) (hl : news.length = size) (h1 : ∀ u ∈ news, u.oneCell' = true) (h63 : n + 1 ≤ maxLen) (hbytes : (n + 1) * bytes ≤ 140737488355328)
    (hnext : ∀ g cap w', Has W w' (Hp.row e size (.slice (some ⟨g, 0, none⟩) (n + 1) cap) (n + 1) (xs ++ news) :: Ps) → K (a.put o.dst (.slice (some ⟨g, 0, none⟩) (n + 1) cap)) w') :
    if Region.wanted o (yielded ops a.tmps) = true then Oper.wp P o a w K Q else E := by
  obtain ⟨i, hi, hz0, hz1, hz2⟩ := info_parts hinfo
  refine step_append_lies w hgd s x t ho 0 e i z size bytes ht hi hz0 hz1 hz2 hzs hsz v n xs hs h.row ⟨nb, 0, none⟩ 1 c news hx (by omega) (fun j u hj => ?_) h1 (by decide) h63 hbytes (Nat.zero_le _) _ rfl fun g cap w' h2 h3 h4 h5 => hnext g cap w' (h.appended h2 rfl ((Fr.refl _ _).grown h3 fun k hk => .inl (by simp [hk])) (by rcases h4 with h4 | h4; exact .inl h4; exact .inr (Nat.le_of_eq h4.symm)))
  rw [cell_row_add hnb j]
  simpa using hj
theorem litT_fx {A : List Bool} {i : Nat} {b : Bool} (hi : i < A.length) : litT A (fx i b) = (A[i] == b) := by
  unfold litT fx
  cases b
  · have h1 : (-(i : Int) - 1).natAbs - 1 = i := by omega
    have h2 : decide (0 < -(i : Int) - 1) = false := by rw [decide_eq_false_iff_not]; omega
    simp only [Bool.false_eq_true, if_false]
    rw [h1, h2]
    simp [hi]
  · have h1 : ((i : Int) + 1).natAbs - 1 = i := by omega
    have h2 : decide (0 < (i : Int) + 1) = true := by rw [decide_eq_true_eq]; omega
    simp only [if_true]
    rw [h1, h2]
    simp [hi]
theorem fix_all {A : List Bool} : ∀ (p : List Bool), p.length ≤ A.length → ((fixL p).all (litT A) = true ↔ A.take p.length = p) := by
  intro p
  have key : ∀ (n : Nat), n ≤ p.length → p.length ≤ A.length → ((fixL (p.take n)).all (litT A) = true ↔ A.take n = p.take n) := by
    intro n
    induction n with
    | zero => intro _ _; simp [fixL]
    | succ n ih =>
      intro hn hA
      have hp : p.take (n + 1) = p.take n ++ [p[n]] := by rw [List.take_add_one, List.getElem?_eq_getElem (by omega)]; rfl
      have hq : A.take (n + 1) = A.take n ++ [A[n]] := by rw [List.take_add_one, List.getElem?_eq_getElem (by omega)]; rfl
      have hl : (p.take n).length = n := by rw [List.length_take]; omega
      rw [hp, hq, fixL_snoc, List.all_append, Bool.and_eq_true, ih (by omega) hA, hl]
      simp only [List.all_cons, List.all_nil, Bool.and_true]
      rw [litT_fx (by omega)]
      constructor
      · rintro ⟨h1, h2⟩
        rw [h1]; simp at h2; rw [h2]
      · intro h
        have := List.append_inj' h rfl
        refine ⟨this.1, ?_⟩
        have h2 := this.2
        simp at h2
        simp [h2]
  intro hA
  have := key p.length (Nat.le_refl _) hA
  rwa [List.take_length] at this
theorem sols_units {V : Nat} {cs : List (List Int)} {p : List Bool} (hp : p.length ≤ V) : Sols V (cs ++ (fixL p).map fun x => [x]) = (ext (V - p.length) p).filter (sat cs) := by
  unfold Sols
  have hs : ∀ A, A ∈ ext V [] → (sat (cs ++ (fixL p).map fun x => [x]) A = true ↔ A.take p.length = p ∧ sat cs A = true) := by
    intro A hA
    have hl : A.length = V := by simpa using ext_length hA
    unfold sat
    rw [List.all_append, Bool.and_eq_true, ← fix_all p (by omega)]
    have e : ((fixL p).map fun x => [x]).all (fun c => c.any (litT A)) = (fixL p).all (litT A) := by
      rw [List.all_map]; congr 1; funext x; simp
    rw [e]
    exact ⟨fun h => ⟨h.2, h.1⟩, fun h => ⟨h.2, h.1⟩⟩
  have h1 : (ext V []).filter (sat (cs ++ (fixL p).map fun x => [x])) = ((ext V []).filter fun A => decide (A.take p.length = p)).filter (sat cs) := by
    rw [List.filter_filter]
    refine List.filter_congr fun A hA => ?_
    rw [Bool.eq_iff_iff, hs A hA]
    simp [and_comm]
  rw [h1]
  congr 1
  have h2 := ext_add p.length (V - p.length) []
  rw [Nat.add_sub_cancel' hp] at h2
  rw [h2]
  have key : ∀ L : List (List Bool), L.Nodup → (∀ q ∈ L, q.length = p.length) → (L.flatMap (ext (V - p.length))).filter (fun A => decide (A.take p.length = p)) = if p ∈ L then ext (V - p.length) p else [] := by
    intro L
    induction L with
    | nil => intro _ _; simp
    | cons q L ih =>
      intro hn hq
      rw [List.nodup_cons] at hn
      rw [List.flatMap_cons, List.filter_append, ih hn.2 fun r hr => hq r (by simp [hr])]
      have ht : ∀ A ∈ ext (V - p.length) q, A.take p.length = q := by
        intro A hA
        obtain ⟨r, _, rfl⟩ := ext_mem.1 hA
        rw [← hq q (by simp)]; simp
      by_cases e : q = p
      · subst e
        rw [if_neg hn.1, List.append_nil, if_pos (by simp)]
        exact List.filter_eq_self.2 fun A hA => by simp [ht A hA]
      · have h0 : (ext (V - p.length) q).filter (fun A => decide (A.take p.length = p)) = [] :=
          List.filter_eq_nil_iff.2 fun A hA => by simp [ht A hA, e]
        rw [h0, List.nil_append]
        have e2 : ¬ p = q := fun h => e h.symm
        simp [e2]
  rw [key _ (ext_nodup _ _) fun q hq => by simpa using ext_length hq, if_pos (ext_all _ _ rfl)]
theorem complete_units {V : Nat} {cs : List (List Int)} {p : List Bool} (hL : Lits V cs) (hp : p.length ≤ V) : complete cs (V - p.length) p = (Sols V (cs ++ (fixL p).map fun x => [x])).head? := by
  rw [complete_eq (by rw [Nat.add_sub_cancel' hp]; exact hL), sols_units hp, List.head?_filter]
theorem right_units {V : Nat} {cs : List (List Int)} {l : List Int} (h : rightF V cs = true) (hl : ∀ x ∈ l, x ≠ 0 ∧ x.natAbs ≤ V) (hn : cs.length + l.length ≤ 262144) : rightF V (cs ++ l.map fun x => [x]) = true := by
  obtain ⟨h1, h2, _⟩ := rightF_len h
  unfold rightF at h ⊢
  simp only [Bool.and_eq_true, Bool.not_eq_true', Bool.or_eq_false_iff, decide_eq_false_iff_not, List.all_eq_true] at h ⊢
  refine ⟨⟨⟨by omega, by omega⟩, by rw [List.length_append, List.length_map]; omega⟩, fun c hc x hx => ?_⟩
  rcases List.mem_append.1 hc with hc | hc
  · exact h.2 c hc x hx
  · obtain ⟨y, hy, rfl⟩ := List.mem_map.1 hc
    rw [List.mem_singleton] at hx
    subst hx
    have := hl x hy
    unfold okLit
    simp only [Bool.not_eq_true', Bool.or_eq_false_iff, beq_eq_false_iff_ne, decide_eq_false_iff_not]
    omega
theorem fix_lit {p : List Bool} {V : Nat} (hp : p.length ≤ V) : ∀ x ∈ fixL p, x ≠ 0 ∧ x.natAbs ≤ V := fun x hx => by
  unfold fixL at hx
  obtain ⟨⟨b, i⟩, hq, rfl⟩ := List.mem_map.1 hx
  have hi := (List.mem_zipIdx hq).2.1
  simp only [Nat.zero_add] at hi
  simp only
  unfold fx
  cases b <;> simp <;> omega
theorem FormHs.more {W : World} {Ps Rs : List Res} {a : Option Addr} {c : Nat} {vs : List Value} {cs : List (List Int)} (h : FormHs W Ps a c vs cs) (hs : ∀ P ∈ Ps, P ∈ Rs) : FormHs W Rs a c vs cs := ⟨fun w Qs hw hP => h.1 w Qs hw fun P hp => hP P (hs P hp), h.2⟩
theorem ints_row {W w : World} {Ps Qs : List Res} {a : Option Addr} {c n : Nat} {l : List Int} (hn : l.length = n) (hm : Hp.row 3 1 (.slice a n c) n (iv l) ∈ Ps) (hw : Has W w Qs) (hP : ∀ P ∈ Ps, P ∈ Qs) : IntsAt w (.slice a l.length c) l := by
  subst hn
  obtain ⟨q1, q2, rfl⟩ := List.append_of_mem (hP _ hm)
  have h := hw.perm (List.perm_middle)
  exact h.rowReads
theorem kN_of {w w' : World} {o : Obj} {Ps : List Res} (h : Has (w.alloc o) w' Ps) : w'.heap[w.heap.size]? = some o := (h.fr.block w.heap.size (by simp) (by simp)).trans (by rw [hp_alloc, if_pos rfl])
theorem kN_of_drew {w w' : World} {o : Obj} {Ps : List Res} (h : Has (w.alloc o).drew w' Ps) : w'.heap[w.heap.size]? = some o := (h.fr.block w.heap.size (by show _ < (w.alloc o).heap.size; simp) (by simp)).trans (by show (w.alloc o).heap[_]? = _; rw [hp_alloc, if_pos rfl])
set_option maxHeartbeats 16000000 in
set_option maxRecDepth 100000 in
theorem Next_calls {W w : World} {Ps : List Res} (h : Has W w Ps) {V : Nat} {a : Option Addr} {c : Nat} {vs : List Value} {cs : List (List Int)} (hF : FormHs W Ps a c vs cs) (h1v : ∀ u ∈ vs, u.oneCell' = true) (hs : ∀ r ∈ cs, r.length ≤ 1000000) {n : Int} {la : Option Addr} {lc : Nat} {l : List Bool} (hl : BoolsSrc W Ps la lc l) (hll : l.length ≤ 70000) (hn6 : cs.length ≤ 100000) :
    Calls Try.prog 13 #[.agg #[.int .i64 (V : Int), .slice a cs.length c], .int .i64 n, .slice la l.length lc] w (NxPost W Ps V cs n l) := by
  have H0 := Lib.hid (h.newBlk (.cells #[.int .i64 (V : Int), .slice a cs.length c] 24 (0, 0)))
  have HF := Lib.hid hF
  have HS := Lib.hid hs
  have HL := Lib.hid hl
  have HV1 := Lib.hid h1v
  have HN6 := Lib.hid hn6
  clear h hF hs hl h1v hn6
  go_enter Try.func13, Try.ntmps13
  go_wp2_with fail
  refine (FRight_calls (HF.out.src _ _ H0.out fun P hP => List.mem_cons_of_mem _ hP)).mono ?_
  rintro e w1 ⟨rfl, hf1⟩
  obtain ⟨R, hR⟩ : ∃ R, rightF V cs = R := ⟨_, rfl⟩
  rw [hR]
  have H1 := Lib.hid (H0.out.step hf1)
  obtain ⟨fb, hfb⟩ : ∃ b, w.heap.size = b := ⟨_, rfl⟩
  rw [hfb] at H1 ⊢
  have HR := Lib.hid hR
  have hb := H1.out.blk
  have c0 : _ = some _ := heap_eq_cell hb 0
  have c1 : _ = some _ := heap_eq_cell hb 1
  have cl := lt_of_block hb
  clear hf1 H0 hfb hR hb
  cases R with
  | false =>
    go_wp2
    go_ret3
    exact .inl ⟨by unfold goodN; rw [HR.out]; rfl, rfl, H1.out.drop⟩
  | true =>
    by_cases h0 : n < 0
    · have b0 : decide (n < 0) = true := by simpa using h0
      go_wp2
      go_ret3
      exact .inl ⟨by unfold goodN; simp; omega, rfl, H1.out.drop⟩
    by_cases h1 : n > V
    · have b0 : decide (n < 0) = false := by simpa using h0
      have b1 : decide (n > (V : Int)) = true := by simpa using h1
      go_wp2
      go_ret3
      exact .inl ⟨by unfold goodN; simp; omega, rfl, H1.out.drop⟩
    by_cases h2 : (l.length : Int) = n
    case neg =>
      have b0 : decide (n < 0) = false := by simpa using h0
      have b1 : decide (n > (V : Int)) = false := by simpa using h1
      have b2 : ((l.length : Int) != n) = true := by simpa using h2
      go_wp2
      go_ret3
      exact .inl ⟨by unfold goodN; simp; omega, rfl, H1.out.drop⟩
    have b0 : decide (n < 0) = false := by simpa using h0
    have b1 : decide (n > (V : Int)) = false := by simpa using h1
    obtain ⟨m, hm⟩ : ∃ m, l.length = m := ⟨_, rfl⟩
    rw [hm] at h2
    subst h2
    have HG := Lib.hid (show goodN V cs (m : Int) l = true by unfold goodN; rw [HR.out, hm]; simp; omega)
    have b2 : ((m : Int) != (m : Int)) = false := by simp
    obtain ⟨N, hN⟩ : ∃ N, nextR cs V l l.length = N := ⟨_, rfl⟩
    have HN := Lib.hid hN
    have HM := Lib.hid hm
    have hmV : m ≤ V := by omega
    have bn1 : decide (V < m) = false := by simp; omega
    obtain ⟨hcl, hV, _⟩ := rightF_len HR.out
    have hw1 : IntKind.i64.wrap ((m : Int) - 1) = (m : Int) - 1 := IntWalk.i64_in _ (by omega)
    have hmaxl : (300001 : Nat) ≤ maxLen := by decide
    have HLY := Lib.hid (fun i (hi : i ≤ m) => (show i + 1 ≤ maxLen ∧ (i + 1) * 8 ≤ 140737488355328 from by omega))
    rw [hm] at hll ⊢
    clear h0 h1 hmaxl hm hN
    go_wp2
    go_loopg [9, 35] m (fun gg z9 z wr => ∃ (i : Nat) (va : Option Addr) (vc : Nat), i ≤ m ∧ m - i ≤ gg ∧ z9 = .slice va i vc ∧ z = .int .i64 (i : Int) ∧ Hid (Has W wr (Hp.row 3 1 (.slice va i vc) i (iv (fixL (l.take i))) :: Hp.blk fb (.cells #[.int .i64 (V : Int), .slice a cs.length c] 24 (0, 0)) :: Ps)))
    case atStart => exact ⟨0, none, 0, Nat.zero_le _, by omega, rfl, rfl, Lib.hid (H1.out.nilRow 3 1)⟩
    case round =>
      obtain ⟨i, va, vc, hi, hg, rfl, rfl, H⟩ := hrel
      clear H1 c0 c1 cl
      by_cases him : i < m
      · obtain ⟨b, hb⟩ : ∃ b, l[i]? = some b := ⟨_, List.getElem?_eq_getElem (by rw [HM.out]; exact him)⟩
        have hla := HL.out _ _ H.out fun P hP => by simp [hP]
        obtain ⟨g, off, rfl, hgl, hc⟩ := BoolsAt.get hla.1 hb
        have htl : (l.take i).length = i := by rw [List.length_take, HM.out]; omega
        have HX := Lib.hid (show iv (fixL (l.take i)) ++ [.int .i64 (fx i b)] = iv (fixL (l.take (i + 1))) by
          rw [List.take_add_one, hb]
          show _ = iv (fixL (l.take i ++ [b]))
          rw [fixL_snoc, htl, iv_append2]; rfl)
        have hw2 : IntKind.i64.wrap (-(i : Int)) = -(i : Int) := IntWalk.i64_in _ (by omega)
        have hw3 : IntKind.i64.wrap (-(i : Int) - 1) = -(i : Int) - 1 := IntWalk.i64_in _ (by omega)
        clear hla hb htl
        cases b with
        | true =>
          go_wp2_with (at_builtin; refine append_has (W := W) (size := 1) (bytes := 8) (z := .int .i64 0) (e := 3) (n := i) (xs := iv (fixL (l.take i))) (news := [.int .i64 (fx i true)]) rfl rfl Try.underlying51 (by kernel_rfl) rfl (by decide) rfl rfl (H.out.step (by (repeat first | exact Fr.refl _ _ | assumption | apply Fr.n | apply Fr.d | apply Fr.a | refine Fr.s ?_ (.inr (by simp; try omega)) _))) (by (repeat first | rw [if_pos (by omega)] | rw [if_neg (by omega)] | rw [hp_drew] | rw [hp_drewN] | rw [hp_alloc_size] | rw [hp_setCell_size] | rw [hp_alloc] | rw [hp_setCell] | rw [oMS] | rw [upd_cells] | rw [lSZ] | rw [lSS] | rfl)) rfl (by simp [Value.oneCell']) (HLY.out i hi).1 (HLY.out i hi).2 ?_)
          intro g2 cap2 w5 h5 hf5 hg5
          rw [HX.out] at h5
          have H5 := Lib.hid h5
          clear h5 hf5 H hc hgl
          go_wp2
          go_roundg (m - (i + 1))
          case measure => omega
          case rel => exact ⟨i + 1, some ⟨g2, 0, none⟩, cap2, him, Nat.le_refl _, rfl, by simp, H5⟩
        | false =>
          go_wp2_with (at_builtin; refine append_has (W := W) (size := 1) (bytes := 8) (z := .int .i64 0) (e := 3) (n := i) (xs := iv (fixL (l.take i))) (news := [.int .i64 (fx i false)]) rfl rfl Try.underlying51 (by kernel_rfl) rfl (by decide) rfl rfl (H.out.step (by (repeat first | exact Fr.refl _ _ | assumption | apply Fr.n | apply Fr.d | apply Fr.a | refine Fr.s ?_ (.inr (by simp; try omega)) _))) (by (repeat first | rw [if_pos (by omega)] | rw [if_neg (by omega)] | rw [hp_drew] | rw [hp_drewN] | rw [hp_alloc_size] | rw [hp_setCell_size] | rw [hp_alloc] | rw [hp_setCell] | rw [oMS] | rw [upd_cells] | rw [lSZ] | rw [lSS] | rfl)) rfl (by simp [Value.oneCell']) (HLY.out i hi).1 (HLY.out i hi).2 ?_)
          intro g2 cap2 w5 h5 hf5 hg5
          rw [HX.out] at h5
          have H5 := Lib.hid h5
          clear h5 hf5 H hc hgl
          go_wp2
          go_roundg (m - (i + 1))
          case measure => omega
          case rel => exact ⟨i + 1, some ⟨g2, 0, none⟩, cap2, him, Nat.le_refl _, rfl, by simp, H5⟩
      · obtain rfl : i = m := by omega
        have h1 := H.out
        rw [List.take_of_length_le (by rw [HM.out]; exact Nat.le_refl _)] at h1
        have H1 := Lib.hid h1
        clear h1 H
        go_wp2
        go_loopg [12] i (fun gg z wr => ∃ (j : Nat) (zi : Int), j ≤ i ∧ j ≤ gg ∧ z = .int .i64 zi ∧ Hid (zi = (j : Int) - 1) ∧ Hid (nextR cs V l j = N) ∧ Hid (Has W wr (Hp.row 3 1 (.slice va i vc) i (iv (fixL l)) :: Hp.blk fb (.cells #[.int .i64 (V : Int), .slice a cs.length c] 24 (0, 0)) :: Ps)))
        case atStart => exact ⟨i, _, Nat.le_refl _, Nat.le_refl _, rfl, Lib.hid rfl, Lib.hid (by rw [← HM.out]; exact HN.out), H1⟩
        case round =>
          obtain ⟨j, zi, hj, hg, rfl, HZI, HI, H⟩ := hrel
          clear H1
          have hb := (H.out.bring 1).blk
          have c0 : _ = some _ := heap_eq_cell hb 0
          have c1 : _ = some _ := heap_eq_cell hb 1
          have cl := lt_of_block hb
          have Hb := Lib.hid hb
          clear hb
          rcases j with _ | k
          · obtain rfl : zi = -1 := by rw [HZI.out]; rfl
            have HE := Lib.hid (show N = none from by rw [← HI.out]; rfl)
            go_wp2
            go_ret3
            exact .inr (.inl ⟨HG.out, HN.out.trans HE.out, rfl, H.out.drop.drop⟩)
          · obtain rfl : zi = (k : Int) := by rw [HZI.out]; omega
            have hkm : k < i := by omega
            have hw2 : IntKind.i64.wrap ((k : Int) - 1) = (k : Int) - 1 := IntWalk.i64_in _ (by omega)
            obtain ⟨b, hbk⟩ : ∃ b, l[k]? = some b := ⟨_, List.getElem?_eq_getElem (by rw [HM.out]; exact hkm)⟩
            have hla := HL.out _ _ H.out fun P hP => by simp [hP]
            obtain ⟨g, off, rfl, hgl, hc⟩ := BoolsAt.get hla.1 hbk
            have HB := Lib.hid (show nextR cs V l (k + 1) = if b then nextR cs V l k else (complete cs (V - (k + 1)) (l.take k ++ [true])).or (nextR cs V l k) from by
              rw [nextR, List.getD_eq_getElem?_getD, hbk]; rfl)
            clear hla hbk
            cases b with
            | true =>
              go_wp2
              go_roundg k
              case measure => omega
              case rel => exact ⟨k, _, by omega, Nat.le_refl _, rfl, Lib.hid rfl, Lib.hid (by rw [← HI.out, HB.out]; rfl), H⟩
            | false =>
              obtain ⟨vg, rfl⟩ : ∃ g, va = some ⟨g, 0, none⟩ := by
                obtain ⟨a', c', he, h1, h2⟩ := owns_form2 H.out.row
                cases he
                cases va with
                | none => exact absurd (h1 rfl).1 (by omega)
                | some ad => obtain ⟨g, rfl⟩ := h2 ad rfl; exact ⟨g, rfl⟩
              have hcap := owns_cap H.out.row
              have hpl : (l.take k ++ [true]).length = k + 1 := by rw [List.length_append, List.length_take, HM.out]; simp; omega
              have hfl : (fixL (l.take k ++ [true])).length = k + 1 := by rw [fixL_len, hpl]
              have hfx : fixL (l.take k ++ [true]) = fixL (l.take k) ++ [(k : Int) + 1] := by
                rw [fixL_snoc, List.length_take, HM.out, Nat.min_eq_left (by omega)]; rfl
              have hrr : rightF V (cs ++ (fixL (l.take k ++ [true])).map fun x => [x]) = true := right_units HR.out (fix_lit (by rw [hpl]; omega)) (by rw [hfl]; have := HN6.out; omega)
              obtain ⟨cs2, hcs2⟩ : ∃ z, (cs ++ (fixL (l.take k ++ [true])).map fun x => [x]) = z := ⟨_, rfl⟩
              have HCU := Lib.hid (show complete cs (V - (k + 1)) (l.take k ++ [true]) = (Sols V cs2).head? from by
                have := complete_units (p := l.take k ++ [true]) (rightF_len HR.out).2.2 (by rw [hpl]; omega)
                rw [hpl, hcs2] at this
                exact this)
              have HC2 := Lib.hid hcs2
              rw [hcs2] at hrr
              have HRR := Lib.hid hrr
              obtain ⟨f2, hf2⟩ : ∃ z, fixL (l.take k ++ [true]) = z := ⟨_, rfl⟩
              rw [hf2] at hfx hfl hcs2
              have HFX := Lib.hid (And.intro hfx (And.intro hfl hcs2))
              have HLC := Lib.hid (show ∀ r ∈ cs2, r.length ≤ 1000000 from fun r hr => by
                rw [← HFX.out.2.2] at hr
                rcases List.mem_append.1 hr with hr | hr
                · exact HS.out r hr
                · obtain ⟨y, _, rfl⟩ := List.mem_map.1 hr; simp)
              have HCL := Lib.hid (fun w1 (hf : Fr [] wr w1) => show Calls Try.prog 33 #[.slice (some ⟨vg, 0, none⟩) k vc] w1 (fun e w' => ∃ v, e = .returned v ∧ Has w1 w' [Hp.row 3 1 v k (iv (fixL (l.take k)))]) from by
                have h1 := (H.out.step hf).rowReads
                refine Clone_h (Has.nil (Fr.refl [] w1)) (a := some ⟨vg, 0, none⟩) (c := vc) (xs := iv (fixL (l.take k))) ?_ (iv_one _) (by omega)
                rw [← fixL_take]
                obtain ⟨h2, a', c', he, hp⟩ := h1
                cases he
                refine ⟨?_, _, _, rfl, fun h0 => ?_⟩
                · rw [show (iv ((fixL l).take k)).length = ((fixL l).take k).length by simp [iv], List.length_take, fixL_len, HM.out]; omega
                · obtain ⟨g5, o5, e5, hg5, hc5⟩ := hp (by omega)
                  refine ⟨g5, o5, e5, hg5, fun j u hu => hc5 j u ?_⟩
                  unfold iv at hu ⊢
                  rw [List.map_take, List.getElem?_take] at hu
                  split at hu
                  · exact hu
                  · cases hu)
              have hRx : (Hp.row 3 1 (.slice (some ⟨vg, 0, none⟩) i vc) i (iv (fixL l)) :: Hp.blk fb (.cells #[.int .i64 (V : Int), .slice a cs.length c] 24 (0, 0)) :: Ps) = (Hp.row 3 1 (.slice (some ⟨vg, 0, none⟩) i vc) i (iv (fixL l)) :: Hp.blk fb (.cells #[.int .i64 (V : Int), .slice a cs.length c] 24 (0, 0)) :: Ps) := rfl
              have HWI := Lib.hid (fun w1 (gB capB : Nat) (h : Has W w1 (Hp.row 3 1 (.slice (some ⟨gB, 0, none⟩) (k + 1) capB) (k + 1) (iv (fixL (l.take k)) ++ [.int .i64 ((k : Int) + 1)]) :: Hp.row 3 1 (.slice (some ⟨vg, 0, none⟩) i vc) i (iv (fixL l)) :: Hp.blk fb (.cells #[.int .i64 (V : Int), .slice a cs.length c] 24 (0, 0)) :: Ps)) =>
                show Calls Try.prog 32 #[.agg #[.int .i64 (V : Int), .slice a cs.length c], .slice (some ⟨gB, 0, none⟩) (k + 1) capB] w1 (fun e w' => ∃ (OV : List (Value × List Int)) (a5 : Option Addr) (c5 : Nat), OV.map (·.2) = f2.map (fun x => [x]) ∧ e = .returned (.agg #[.int .i64 (V : Int), .slice a5 (cs.length + (k + 1)) c5]) ∧
                  Has W w' (Hp.row 51 1 (.slice a5 (cs.length + (k + 1)) c5) (cs.length + (k + 1)) (vs ++ OV.map (·.1)) :: bun (OV.map rowC) :: Hp.row 3 1 (.slice (some ⟨gB, 0, none⟩) (k + 1) capB) (k + 1) (iv f2) :: Hp.row 3 1 (.slice (some ⟨vg, 0, none⟩) i vc) i (iv (fixL l)) :: Hp.blk fb (.cells #[.int .i64 (V : Int), .slice a cs.length c] 24 (0, 0)) :: Ps)) from by
                have e1 : iv (fixL (l.take k)) ++ [.int .i64 ((k : Int) + 1)] = iv f2 := by rw [HFX.out.1, iv_append2]; rfl
                rw [e1] at h
                have := with_calls (V := V) h (HF.out.more fun P hP => by simp [hP]) (b := some ⟨gB, 0, none⟩) (d := capB) (l := f2) (fun w' Qs hw hP => ints_row HFX.out.2.1 (by simp) hw hP) (by have := HN6.out; omega) (by rw [HFX.out.2.1]; omega) HV1.out
                rw [HFX.out.2.1] at this
                exact this)
              have HNE := Lib.hid (fun w1 (gB capB : Nat) (OV : List (Value × List Int)) (a5 : Option Addr) (c5 : Nat) (hh : OV.map (·.2) = f2.map (fun x => [x]) ∧ Has W w1 (Hp.row 51 1 (.slice a5 (cs.length + (k + 1)) c5) (cs.length + (k + 1)) (vs ++ OV.map (·.1)) :: bun (OV.map rowC) :: Hp.row 3 1 (.slice (some ⟨gB, 0, none⟩) (k + 1) capB) (k + 1) (iv f2) :: Hp.row 3 1 (.slice (some ⟨vg, 0, none⟩) i vc) i (iv (fixL l)) :: Hp.blk fb (.cells #[.int .i64 (V : Int), .slice a cs.length c] 24 (0, 0)) :: Ps)) =>
                show Calls Try.prog 28 #[.agg #[.int .i64 (V : Int), .slice a5 (cs.length + (k + 1)) c5]] w1 (fun e w' => ∃ p CV L tr bad, e = .returned (.pointer (some ⟨p, 0, none⟩)) ∧ Has W w' (engR p V CV L tr 0 [] bad :: Hp.row 51 1 (.slice a5 (cs.length + (k + 1)) c5) (cs.length + (k + 1)) (vs ++ OV.map (·.1)) :: bun (OV.map rowC) :: Hp.row 3 1 (.slice (some ⟨gB, 0, none⟩) (k + 1) capB) (k + 1) (iv f2) :: Hp.row 3 1 (.slice (some ⟨vg, 0, none⟩) i vc) i (iv (fixL l)) :: Hp.blk fb (.cells #[.int .i64 (V : Int), .slice a cs.length c] 24 (0, 0)) :: Ps) ∧ NI V cs2 (CV.map (·.2)) (wl L) tr bad) from by
                obtain ⟨hOV, h⟩ := hh
                have hOL : OV.length = k + 1 := by
                  have := congrArg List.length hOV
                  rw [List.length_map, List.length_map, HFX.out.2.1] at this; exact this
                have hg := (HF.out.more (Rs := Hp.row 3 1 (.slice (some ⟨gB, 0, none⟩) (k + 1) capB) (k + 1) (iv f2) :: Hp.row 3 1 (.slice (some ⟨vg, 0, none⟩) i vc) i (iv (fixL l)) :: Hp.blk fb (.cells #[.int .i64 (V : Int), .slice a cs.length c] 24 (0, 0)) :: Ps) fun P hP => by simp [hP]).grown (a' := a5) (c' := c5) (k := cs.length + (k + 1)) (OV := OV) (by rw [hOL]) (by have := HN6.out; omega) (fun q hq => by
                  have h1 := List.mem_map_of_mem (f := (·.2)) hq
                  rw [hOV] at h1
                  obtain ⟨y, _, hy⟩ := List.mem_map.1 h1
                  rw [← hy]; simp)
                rw [hOV, HFX.out.2.2] at hg
                have hl2 : cs2.length = cs.length + (k + 1) := by rw [← HFX.out.2.2, List.length_append, List.length_map, HFX.out.2.1]
                have := newEngine_calls (V := V) h hg.src HRR.out HLC.out
                rw [hl2] at this
                exact this)
              clear hpl hfl hfx hrr hf2 hcs2 hRx
              go_wp2
              go_cut [13] (fun s13 wx => ∃ (p : Nat) (CV : List (Value × List Int)) (L : List (Int × (Value × List Nat))) (tr : List Int) (bad : Bool), s13 = .pointer (some ⟨p, 0, none⟩) ∧ Hid (Has W wx (engR p V CV L tr 0 [] bad :: Hp.row 3 1 (.slice (some ⟨vg, 0, none⟩) i vc) i (iv (fixL l)) :: Hp.blk fb (.cells #[.int .i64 (V : Int), .slice a cs.length c] 24 (0, 0)) :: Ps) ∧ NI V cs2 (CV.map (·.2)) (wl L) tr bad))
              case first =>
                refine wp_region_cands [[4, 7]] [[([0, 1, 2, 3, 4], [0]), ([5, 6, 7, 8], [0]), ([9, 10, 11], [])], [([0, 1, 2, 3, 5, 6, 7, 4], [0]), ([8], [0]), ([9, 10, 11], [])]] (by kernel_rfl) (by kernel_rfl) ?_
                simp only [allS]
                refine ⟨?_, ?_⟩
                all_goals
                  (simp only [wpSegs, pick, Array.getD_eq_getD_getElem?, List.getElem?_toArray, List.getElem?_cons_succ, List.getElem?_cons_zero, Option.getD_some])
                  go_wp2_with fail
                  refine (HCL.out _ (by (repeat first | exact Fr.refl _ _ | assumption | apply Fr.n | apply Fr.d | apply Fr.a | refine Fr.s ?_ (.inr (by simp; try omega)) _))).mono ?_
                  rintro e wA ⟨vA, rfl, hA0⟩
                  (first | have kN := kN_of hA0 | have kN := kN_of_drew hA0 | skip)
                  have hA := has_join4 (H.out.step (by (repeat first | exact Fr.refl _ _ | assumption | apply Fr.n | apply Fr.d | apply Fr.a | refine Fr.s ?_ (.inr (by simp; try omega)) _))) hA0
                  have KA := Lib.hid hA
                  have hbA := (hA.bring 2).blk
                  have kA := row2_at hbA
                  have KRA := Lib.hid kA
                  clear hA hA0 hbA kA
                  go_wp2
                  refine Mid.intro ⟨⟨again_row (T := 24) (cs := [.int .i64 (V : Int), .slice a cs.length c]) rfl rfl rfl Try.underlying24 rfl (by kernel_rfl) KRA.out rfl, trivial⟩, ?_⟩
                  go_wp2_with (at_builtin; refine append_has (W := W) (size := 1) (bytes := 8) (z := .int .i64 0) (e := 3) (n := k) (xs := iv (fixL (l.take k))) (news := [.int .i64 ((k : Int) + 1)]) rfl rfl Try.underlying51 (by kernel_rfl) rfl (by decide) rfl rfl (KA.out.step (by (repeat first | exact Fr.refl _ _ | assumption | apply Fr.n | apply Fr.d | apply Fr.a | refine Fr.s ?_ (.inr (by simp; try omega)) _))) (by first | exact kN | (repeat first | rw [if_pos (by omega)] | rw [if_neg (by omega)] | rw [hp_drew] | rw [hp_drewN] | rw [hp_alloc_size] | rw [hp_setCell_size] | rw [hp_alloc] | rw [hp_setCell] | rw [oMS] | rw [upd_cells] | rw [lSZ] | rw [lSS] | rfl)) rfl (by simp [Value.oneCell']) (HLY.out k (by omega)).1 (HLY.out k (by omega)).2 ?_)
                  intro gB capB wB hB hfB hgB
                  have KB := Lib.hid hB
                  have hbB := (hB.bring 2).blk
                  have kB := row2_at hbB
                  have KRB := Lib.hid kB
                  clear hB hbB hfB hgB KA KRA kB
                  (try clear kN)
                  go_wp2
                  refine Mid.intro ⟨⟨again_row (T := 24) (cs := [.int .i64 (V : Int), .slice a cs.length c]) rfl rfl rfl Try.underlying24 rfl (by kernel_rfl) KRB.out rfl, trivial⟩, ?_⟩
                  go_wp2_with fail
                  refine (HWI.out _ _ _ (KB.out.step (by (repeat first | exact Fr.refl _ _ | assumption | apply Fr.n | apply Fr.d | apply Fr.a | refine Fr.s ?_ (.inr (by simp; try omega)) _)))).mono ?_
                  rintro e wC ⟨OV, a5, c5, hOV, rfl, hC⟩
                  have KC := Lib.hid (And.intro hOV hC)
                  clear hOV hC KB KRB
                  go_wp2_with fail
                  refine (HNE.out _ _ _ _ _ _ KC.out).mono ?_
                  rintro e wD ⟨p, CV, L, tr, bad, rfl, hD, hni⟩
                  have KD := Lib.hid (And.intro hD hni)
                  clear hD hni KC
                  go_wp2
                  refine Mid.intro ⟨trivial, Strict.intro rfl ?_⟩
                  go_wp2_with fail
                  go_meet
                  exact ⟨p, CV, L, tr, bad, rfl, Lib.hid ⟨(KD.out.1.ord 6 [0, 4, 5]).step (by (repeat first | exact Fr.refl _ _ | assumption | apply Fr.n | apply Fr.d | apply Fr.a | refine Fr.s ?_ (.inr (by simp; try omega)) _)), KD.out.2⟩⟩
              case rest =>
                obtain ⟨p, CV, L, tr, bad, rfl, HQ⟩ := hcut
                have HSC := Lib.hid (fun w' (hf : Fr [] wc w') => start_calls (HQ.out.1.step hf) HQ.out.2 HRR.out HLC.out)
                clear c0 c1 cl Hb HCL HWI HNE hc hgl
                go_wp2_with fail
                refine (HSC.out _ (by (repeat first | exact Fr.refl _ _ | assumption | apply Fr.n | apply Fr.d | apply Fr.a | refine Fr.s ?_ (.inr (by simp; try omega)) _))).mono ?_
                rintro e w3 ⟨b, CV', L', tr', dn', D', bad', rfl, h3, hno, hyes⟩
                cases b with
                | false =>
                  have HS0 := Lib.hid (hno rfl)
                  have H3 := Lib.hid h3.drop
                  clear h3 hno hyes HSC HQ
                  go_wp2
                  go_roundg k
                  case measure => omega
                  case rel => exact ⟨k, _, by omega, Nat.le_refl _, rfl, Lib.hid rfl, Lib.hid (by rw [← HI.out, HB.out, HCU.out, HS0.out]; rfl), H3⟩
                | true =>
                  obtain ⟨rfl, rfl, U, cl0, hB, hfo, hl⟩ := hyes rfl
                  have hh := hfo.head hB
                  rw [hl] at hh
                  have HS0 := Lib.hid (show N = some (asg V tr') from by rw [← HI.out, HB.out, HCU.out, hh]; rfl)
                  have H3 := Lib.hid h3
                  clear h3 hno hyes HSC HQ hB hfo hl hh
                  go_wp2_with fail
                  refine (first_calls (H3.out.step (by (repeat first | exact Fr.refl _ _ | assumption | apply Fr.n | apply Fr.d | apply Fr.a | refine Fr.s ?_ (.inr (by simp; try omega)) _))) hV hmV).mono ?_
                  rintro e w4 ⟨v, rfl, h4⟩
                  obtain ⟨va4, vc4, rfl, _, _⟩ := owns_form2 h4.row
                  have H4 := Lib.hid (show Has W w4 (Hp.row 4 1 (.slice va4 i vc4) i (bv ((asg V tr').take i)) :: Ps) from h4.ord 4 [0])
                  have HTL := Lib.hid (show ((asg V tr').take i).length = i by rw [List.length_take, asg_length]; omega)
                  clear h4 H3
                  go_wp2
                  go_ret3
                  refine .inr (.inr ⟨HG.out, asg V tr', va4, vc4, _, HN.out.trans HS0.out, ?_, (show Has W _ ([_] ++ Ps) from H4.out), ?_⟩)
                  · rw [HM.out, HTL.out]; rfl
                  · rw [HM.out]
                    exact BoolsSrc.row HTL.out (by simp)
end Go.Proofs.Ytjidldfnlejdhaa
end

section
/- Counting by picking a variable: what is added up is the number of assignments. Nothing of a program. -/
namespace Go.Proofs.Sv
set_option linter.unusedVariables false
set_option linter.unusedSimpArgs false
theorem ext_map (k : Nat) (l : List Bool) : ext k l = (ext k []).map (l ++ ·) := by
  induction k generalizing l with
  | zero => simp [ext]
  | succ k ih =>
    rw [ext, ext, ih (l ++ [false]), ih (l ++ [true]), ih ([] ++ [false]), ih ([] ++ [true])]
    simp [List.map_append, Function.comp_def]
/-- no literal of a variable -/
def Free (cs : List (List Int)) (v : Nat) : Prop := ∀ c ∈ cs, ∀ y ∈ c, y.natAbs ≠ v
theorem litT_other {l s : List Bool} {b b' : Bool} {y : Int} (h0 : y ≠ 0) (h : y.natAbs ≠ l.length + 1) : litT (l ++ b :: s) y = litT (l ++ b' :: s) y := by
  unfold litT
  have e : (l ++ b :: s).getD (y.natAbs - 1) false = (l ++ b' :: s).getD (y.natAbs - 1) false := by
    rw [List.getD_eq_getElem?_getD, List.getD_eq_getElem?_getD]
    by_cases h1 : y.natAbs - 1 < l.length
    · rw [List.getElem?_append_left h1, List.getElem?_append_left h1]
    · rw [List.getElem?_append_right (by omega), List.getElem?_append_right (by omega)]
      obtain ⟨j, hj⟩ : ∃ j, y.natAbs - 1 - l.length = j + 1 := ⟨y.natAbs - 1 - l.length - 1, by omega⟩
      rw [hj]; simp
  rw [e]
theorem sat_congr {cs : List (List Int)} {A B : List Bool} (h : ∀ c ∈ cs, ∀ y ∈ c, litT A y = litT B y) : sat cs A = sat cs B := by
  unfold sat
  rw [Bool.eq_iff_iff, List.all_eq_true, List.all_eq_true]
  have : ∀ c ∈ cs, c.any (litT A) = c.any (litT B) := fun c hc => by
    rw [Bool.eq_iff_iff, List.any_eq_true, List.any_eq_true]
    constructor
    · rintro ⟨y, hy, hl⟩; exact ⟨y, hy, by rw [← h c hc y hy]; exact hl⟩
    · rintro ⟨y, hy, hl⟩; exact ⟨y, hy, by rw [h c hc y hy]; exact hl⟩
  constructor <;> intro g c hc
  · rw [← this c hc]; exact g c hc
  · rw [this c hc]; exact g c hc
def NZ (cs : List (List Int)) : Prop := ∀ c ∈ cs, ∀ y ∈ c, y ≠ 0
theorem count_half {r : List (List Int)} (h0 : NZ r) {x : Int} (hx : x ≠ 0) (hf : Free r x.natAbs) {k : Nat} {l : List Bool} (h1 : l.length < x.natAbs) (h2 : x.natAbs ≤ l.length + k) :
    (ext k l).countP (fun A => sat r A && litT A x) * 2 = (ext k l).countP (sat r) := by
  induction k generalizing l with
  | zero => omega
  | succ k ih =>
    rw [ext, List.countP_append, List.countP_append, Nat.add_mul]
    by_cases hl : x.natAbs = l.length + 1
    · have hs : ∀ b : Bool, (ext k (l ++ [b])).countP (sat r) = (ext k (l ++ [false])).countP (sat r) := by
        intro b
        rw [ext_map k (l ++ [b]), ext_map k (l ++ [false]), List.countP_map, List.countP_map]
        congr 1
        funext s
        simp only [Function.comp_apply, List.append_assoc, List.cons_append, List.nil_append]
        exact sat_congr fun c hc y hy => litT_other (h0 c hc y hy) (by rw [← hl]; exact hf c hc y hy)
      have hv : ∀ b : Bool, ∀ A ∈ ext k (l ++ [b]), litT A x = (b == decide (0 < x)) := by
        intro b A hA
        obtain ⟨s, _, rfl⟩ := ext_mem.1 hA
        unfold litT
        rw [hl]
        simp
      have hc : ∀ b : Bool, (ext k (l ++ [b])).countP (fun A => sat r A && litT A x) = if b = decide (0 < x) then (ext k (l ++ [false])).countP (sat r) else 0 := by
        intro b
        have e : (ext k (l ++ [b])).countP (fun A => sat r A && litT A x) = (ext k (l ++ [b])).countP (fun A => sat r A && (b == decide (0 < x))) := by
          refine List.countP_congr fun A hA => ?_
          simp only [hv b A hA]
        rw [e]
        by_cases hb : b = decide (0 < x)
        · rw [if_pos hb, ← hs b]
          refine List.countP_congr fun A hA => ?_
          simp [hb]
        · rw [if_neg hb, List.countP_eq_zero]
          intro A hA
          simp [hb]
      rw [hc false, hc true, hs true]
      by_cases hp : 0 < x <;> simp [hp] <;> omega
    · rw [ih (by simp; omega) (by simp; omega), ih (by simp; omega) (by simp; omega)]
/-- what is left of clauses if a literal is true; none if one is empty -/
def cutL (c : List Int) (x : Int) : List Int := c.filter fun y => !(y == -x)
def under : List (List Int) → Int → Option (List (List Int))
  | [], _ => some []
  | c :: cs, x => if c.contains x then under cs x else if cutL c x = [] then none else (under cs x).map fun r => cutL c x :: r
theorem any_congr {c : List Int} {f g : Int → Bool} (h : ∀ y ∈ c, f y = g y) : c.any f = c.any g := by
  rw [Bool.eq_iff_iff, List.any_eq_true, List.any_eq_true]
  constructor
  · rintro ⟨y, hy, hl⟩; exact ⟨y, hy, by rw [← h y hy]; exact hl⟩
  · rintro ⟨y, hy, hl⟩; exact ⟨y, hy, by rw [h y hy]; exact hl⟩
theorem litT_opp {A : List Bool} {x : Int} (hx : x ≠ 0) : litT A (-x) = !litT A x := by
  unfold litT
  rw [Int.natAbs_neg]
  have : decide (0 < -x) = !decide (0 < x) := by
    by_cases h : 0 < x
    · simp [h]; omega
    · simp [h]; omega
  rw [this]
  cases A.getD (x.natAbs - 1) false <;> cases decide (0 < x) <;> rfl
theorem cut_any {c : List Int} {x : Int} (hx : x ≠ 0) {A : List Bool} (hA : litT A x = true) : (cutL c x).any (litT A) = c.any (litT A) := by
  unfold cutL
  rw [List.any_filter]
  refine any_congr fun y hy => ?_
  by_cases e : y = -x
  · subst e
    rw [litT_opp hx, hA]; simp
  · simp [e]
theorem under_sat {x : Int} (hx : x ≠ 0) {A : List Bool} (hA : litT A x = true) : ∀ cs : List (List Int), sat cs A = match under cs x with | none => false | some r => sat r A
  | [] => rfl
  | c :: cs => by
    have ih := under_sat hx hA cs
    unfold under
    have e : sat (c :: cs) A = (c.any (litT A) && sat cs A) := rfl
    by_cases h : c.contains x = true
    · rw [if_pos h]
      have : c.any (litT A) = true := List.any_eq_true.2 ⟨x, by simpa using h, hA⟩
      rw [e, this, Bool.true_and]; exact ih
    · rw [if_neg h]
      by_cases h2 : cutL c x = []
      · rw [if_pos h2, e, ← cut_any hx hA, h2]; rfl
      · rw [if_neg h2, e, ← cut_any hx hA, ih]
        cases under cs x with
        | none => simp
        | some r => rfl
theorem under_mem {x : Int} : ∀ {cs r : List (List Int)}, under cs x = some r → ∀ d ∈ r, d ≠ [] ∧ ∃ c ∈ cs, x ∉ c ∧ d = cutL c x
  | [], r, h, d, hd => by
    cases h; cases hd
  | c :: cs, r, h, d, hd => by
    unfold under at h
    split at h
    · obtain ⟨h1, c', h2, h3⟩ := under_mem h d hd
      exact ⟨h1, c', by simp [h2], h3⟩
    · rename_i hc
      split at h
      · cases h
      · rename_i hn
        obtain ⟨r', hr, rfl⟩ := Option.map_eq_some_iff.1 h
        rcases List.mem_cons.1 hd with rfl | hd
        · exact ⟨hn, c, by simp, by simpa using hc, rfl⟩
        · obtain ⟨h1, c', h2, h3⟩ := under_mem hr d hd
          exact ⟨h1, c', by simp [h2], h3⟩
theorem under_lits {cs r : List (List Int)} {x : Int} (h : under cs x = some r) : (∀ d ∈ r, d ≠ []) ∧ Free r x.natAbs ∧ ∀ d ∈ r, ∀ y ∈ d, ∃ c ∈ cs, y ∈ c := by
  refine ⟨fun d hd => (under_mem h d hd).1, fun d hd y hy e => ?_, fun d hd y hy => ?_⟩
  · obtain ⟨_, c, hc, hn, rfl⟩ := under_mem h d hd
    unfold cutL at hy
    rw [List.mem_filter] at hy
    obtain ⟨h1, h2⟩ := hy
    simp at h2
    rcases Int.natAbs_eq_natAbs_iff.1 e with e | e
    · subst e; exact hn h1
    · exact h2 e
  · obtain ⟨_, c, hc, hn, rfl⟩ := under_mem h d hd
    exact ⟨c, hc, (List.mem_filter.1 hy).1⟩
def pickL (l : List (List Int)) : Int := match l.find? fun c => c.length == 1 with | some c => c.headD 0 | none => (l.headD []).headD 0
theorem pickL_mem {l : List (List Int)} (h0 : l ≠ []) (h : ∀ c ∈ l, c ≠ []) : ∃ c ∈ l, pickL l ∈ c := by
  have hd : ∀ c : List Int, c ≠ [] → c.headD 0 ∈ c := by
    intro c hc
    cases c with
    | nil => exact absurd rfl hc
    | cons x c => simp
  unfold pickL
  split
  · rename_i c hc
    exact ⟨c, List.mem_of_find?_eq_some hc, hd c (h c (List.mem_of_find?_eq_some hc))⟩
  · cases l with
    | nil => exact absurd rfl h0
    | cons c l => exact ⟨c, by simp, hd c (h c (by simp))⟩
/-- the numbers of free variables at the leaves -/
def leaves : Nat → List (List Int) → List Nat
  | n, [] => [n]
  | 0, _ :: _ => []
  | n + 1, c :: cs => (match under (c :: cs) (pickL (c :: cs)) with | none => [] | some r => leaves n r) ++ (match under (c :: cs) (-pickL (c :: cs)) with | none => [] | some r => leaves n r)
def sum2 (l : List Nat) : Nat := (l.map (2 ^ ·)).sum
theorem sum2_append (a b : List Nat) : sum2 (a ++ b) = sum2 a + sum2 b := by simp [sum2]
theorem leaves_le : ∀ (n : Nat) (cs : List (List Int)), ∀ k ∈ leaves n cs, k ≤ n
  | n, [], k, h => by simp [leaves] at h; omega
  | 0, _ :: _, k, h => by cases h
  | n + 1, c :: cs, k, h => by
    rw [leaves, List.mem_append] at h
    rcases h with h | h
    · split at h
      · cases h
      · have := leaves_le n _ k h; omega
    · split at h
      · cases h
      · have := leaves_le n _ k h; omega
/-- as many variables as are said, among them those of all clauses -/
def Over (V n : Nat) (cs : List (List Int)) : Prop := (∀ c ∈ cs, c ≠ []) ∧ NZ cs ∧ ∃ us : List Nat, us.Nodup ∧ us.length = n ∧ (∀ u ∈ us, 1 ≤ u ∧ u ≤ V) ∧ ∀ c ∈ cs, ∀ y ∈ c, y.natAbs ∈ us
theorem Over.le {V n : Nat} {cs : List (List Int)} (h : Over V n cs) : n ≤ V := by
  obtain ⟨_, _, us, h1, rfl, h3, _⟩ := h
  exact Go.Proofs.Hp.pigeon h1 fun u hu => h3 u hu
theorem Over.under {V n : Nat} {cs r : List (List Int)} {x : Int} (h : Over V (n + 1) cs) (hx : ∃ c ∈ cs, x ∈ c ∨ -x ∈ c) (hu : under cs x = some r) : Over V n r := by
  obtain ⟨h0, hz, us, h1, h2, h3, h4⟩ := h
  obtain ⟨g1, g2, g3⟩ := under_lits hu
  have hm : x.natAbs ∈ us := by
    obtain ⟨c, hc, hy | hy⟩ := hx
    · exact h4 c hc x hy
    · have := h4 c hc _ hy
      rwa [Int.natAbs_neg] at this
  refine ⟨g1, fun d hd y hy => ?_, us.erase x.natAbs, h1.erase _, by rw [List.length_erase_of_mem hm, h2]; rfl, fun u hu => h3 u (List.mem_of_mem_erase hu), fun d hd y hy => ?_⟩
  · obtain ⟨c, hc, hyc⟩ := g3 d hd y hy
    exact hz c hc y hyc
  · obtain ⟨c, hc, hyc⟩ := g3 d hd y hy
    exact (List.mem_erase_of_ne (g2 d hd y hy)).2 (h4 c hc y hyc)
theorem Over.pos {V : Nat} {c : List Int} {cs : List (List Int)} (h : Over V 0 (c :: cs)) : False := by
  obtain ⟨h0, hz, us, h1, h2, h3, h4⟩ := h
  cases c with
  | nil => exact h0 [] (by simp) rfl
  | cons x c =>
    have := h4 (x :: c) (by simp) x (by simp)
    rw [List.length_eq_zero_iff.1 h2] at this
    cases this
theorem ext_one_len {V : Nat} {A : List Bool} (h : A ∈ ext V []) : A.length = V := by simpa using ext_length h
theorem count_one {V : Nat} {cs : List (List Int)} (hz : NZ cs) {x : Int} (hx : x ≠ 0) (hV : x.natAbs ≤ V) :
    (ext V []).countP (fun A => sat cs A && litT A x) * 2 = match under cs x with | none => 0 | some r => (ext V []).countP (sat r) := by
  have hs := fun (A : List Bool) (hA : litT A x = true) => under_sat hx hA cs
  cases hu : under cs x with
  | none =>
    rw [hu] at hs
    have : (ext V []).countP (fun A => sat cs A && litT A x) = 0 := by
      rw [List.countP_eq_zero]
      intro A _ h
      rw [Bool.and_eq_true] at h
      rw [hs A h.2] at h
      exact absurd h.1 (by simp)
    simp [this]
  | some r =>
    rw [hu] at hs
    obtain ⟨g1, g2, g3⟩ := under_lits hu
    simp only
    rw [← count_half (r := r) (fun d hd y hy => by obtain ⟨c, hc, hyc⟩ := g3 d hd y hy; exact hz c hc y hyc) hx g2 (l := []) (k := V) (by simp; omega) (by simpa using hV)]
    congr 1
    refine List.countP_congr fun A _ => ?_
    cases h : litT A x with
    | false => simp
    | true => rw [hs A h]
theorem leaves_count : ∀ (n : Nat) (V : Nat) (cs : List (List Int)), Over V n cs → sum2 (leaves n cs) * 2 ^ (V - n) = (ext V []).countP (sat cs)
  | n, V, [], h => by
    have hl : (ext V []).length = 2 ^ V := by
      have : ∀ (k : Nat) (l : List Bool), (ext k l).length = 2 ^ k := by
        intro k
        induction k with
        | zero => intro l; simp [ext]
        | succ k ih => intro l; rw [ext, List.length_append, ih, ih, Nat.pow_succ]; omega
      exact this V []
    have e : (ext V []).countP (sat []) = (ext V []).length := List.countP_eq_length.2 fun A _ => rfl
    rw [e, hl]
    have : sum2 (leaves n []) = 2 ^ n := by simp [leaves, sum2]
    rw [this, ← Nat.pow_add, Nat.add_sub_cancel' h.le]
  | 0, V, c :: cs, h => h.pos.elim
  | n + 1, V, c :: cs, h => by
    obtain ⟨p, hp⟩ : ∃ p, pickL (c :: cs) = p := ⟨_, rfl⟩
    obtain ⟨d, hd, hpd⟩ := pickL_mem (l := c :: cs) (by simp) h.1
    rw [hp] at hpd
    have hp0 : p ≠ 0 := h.2.1 d hd p hpd
    have hpV : p.natAbs ≤ V := by
      obtain ⟨_, _, us, _, _, h3, h4⟩ := h
      exact (h3 _ (h4 d hd p hpd)).2
    have hle := h.le
    obtain ⟨m, hm⟩ : ∃ m, V - n = m + 1 := ⟨V - n - 1, by omega⟩
    have hm2 : V - (n + 1) = m := by omega
    have h2 : (ext V []).countP (sat (c :: cs)) = (ext V []).countP (fun A => sat (c :: cs) A && litT A p) + (ext V []).countP (fun A => sat (c :: cs) A && litT A (-p)) := by
      rw [List.countP_eq_countP_filter_add (ext V []) (sat (c :: cs)) (fun A => litT A p), List.countP_filter, List.countP_filter]
      congr 1
      refine List.countP_congr fun A _ => ?_
      rw [litT_opp hp0]
    have hc1 := count_one (cs := c :: cs) h.2.1 hp0 hpV
    have hc2 := count_one (cs := c :: cs) h.2.1 (x := -p) (by omega) (by rw [Int.natAbs_neg]; exact hpV)
    have step : ∀ x : Int, (∃ c' ∈ c :: cs, x ∈ c' ∨ -x ∈ c') → sum2 (match under (c :: cs) x with | none => [] | some r => leaves n r) * 2 ^ (m + 1) = match under (c :: cs) x with | none => 0 | some r => (ext V []).countP (sat r) := by
      intro x hx
      cases hu : under (c :: cs) x with
      | none => simp [sum2]
      | some r =>
        simp only
        rw [← hm]
        exact leaves_count n V r (h.under hx hu)
    have s1 := step p ⟨d, hd, .inl hpd⟩
    have s2 := step (-p) ⟨d, hd, .inr (by rw [Int.neg_neg]; exact hpd)⟩
    rw [leaves, hp, sum2_append, hm2, h2]
    rw [← hc1, Nat.pow_succ, ← Nat.mul_assoc] at s1
    rw [← hc2, Nat.pow_succ, ← Nat.mul_assoc] at s2
    rw [Nat.add_mul]
    omega
end Go.Proofs.Sv
end
