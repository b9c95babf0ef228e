/- Own texts of this claim, part 5: no condition. -/
import Derived.Test.YtbpaadpocihahaaProg
import Derived.Lib.Hide
import Derived.IntWalk
import Derived.Test.YtbpaadpocihahaaZM3
import Derived.Test.YtbpaadpocihahaaZM2
set_option linter.unusedVariables false
set_option linter.unusedSimpArgs false
section
/- Formulas: assignments in order, the least that satisfies, all of the first variables, their number. Nothing of a program. -/
namespace Go.Proofs.Sv
set_option linter.unusedVariables false
set_option linter.unusedSimpArgs false
/-- a literal is true under values of the variables from 1 on -/
def litT (A : List Bool) (x : Int) : Bool := A.getD (x.natAbs - 1) false == decide (0 < x)
def sat (cs : List (List Int)) (A : List Bool) : Bool := cs.all fun c => c.any (litT A)
def opn (l : List Bool) (x : Int) : Bool := decide (l.length < x.natAbs) || litT l x
def hold (cs : List (List Int)) (l : List Bool) : Bool := cs.all fun c => c.any (opn l)
/-- all lists of values that begin with l and have k more, in order -/
def ext : Nat → List Bool → List (List Bool)
  | 0, l => [l]
  | k + 1, l => ext k (l ++ [false]) ++ ext k (l ++ [true])
/-- literals of the first n variables -/
def Lits (n : Nat) (cs : List (List Int)) : Prop := ∀ c ∈ cs, ∀ x ∈ c, x ≠ 0 ∧ x.natAbs ≤ n
def complete (cs : List (List Int)) : Nat → List Bool → Option (List Bool)
  | 0, l => if hold cs l then some l else none
  | k + 1, l => if hold cs l then (complete cs k (l ++ [false])).or (complete cs k (l ++ [true])) else none
theorem ext_mem {k : Nat} {l A : List Bool} : A ∈ ext k l ↔ ∃ r, r.length = k ∧ A = l ++ r := by
  induction k generalizing l with
  | zero => simp [ext]
  | succ k ih =>
    rw [ext, List.mem_append, ih, ih]
    constructor
    · rintro (⟨r, h1, rfl⟩ | ⟨r, h1, rfl⟩)
      · exact ⟨false :: r, by simp [h1], by simp⟩
      · exact ⟨true :: r, by simp [h1], by simp⟩
    · rintro ⟨r, h1, rfl⟩
      cases r with
      | nil => simp at h1
      | cons b r =>
        simp at h1
        cases b
        · exact .inl ⟨r, h1, by simp⟩
        · exact .inr ⟨r, h1, by simp⟩
theorem ext_length {k : Nat} {l A : List Bool} (h : A ∈ ext k l) : A.length = l.length + k := by
  obtain ⟨r, h1, rfl⟩ := ext_mem.1 h
  simp [h1]
theorem ext_all (n : Nat) (A : List Bool) (h : A.length = n) : A ∈ ext n [] := ext_mem.2 ⟨A, h, by simp⟩
theorem litT_append {l r : List Bool} {x : Int} (h0 : x ≠ 0) (h : x.natAbs ≤ l.length) : litT (l ++ r) x = litT l x := by
  unfold litT
  have : x.natAbs - 1 < l.length := by omega
  simp [List.getElem?_append_left this]
theorem hold_prefix {n : Nat} {cs : List (List Int)} (hL : Lits n cs) {l r : List Bool} (h : hold cs (l ++ r) = true) : hold cs l = true := by
  unfold hold at h ⊢
  rw [List.all_eq_true] at h ⊢
  intro c hc
  have h1 := h c hc
  rw [List.any_eq_true] at h1 ⊢
  obtain ⟨x, hx, h2⟩ := h1
  refine ⟨x, hx, ?_⟩
  unfold opn at h2 ⊢
  by_cases h3 : l.length < x.natAbs
  · simp [h3]
  · rw [Bool.or_eq_true] at h2 ⊢
    rcases h2 with h2 | h2
    · simp at h2; omega
    · rw [litT_append (hL c hc x hx).1 (by omega)] at h2
      exact .inr h2
theorem hold_full {cs : List (List Int)} {A : List Bool} (hL : Lits A.length cs) : hold cs A = sat cs A := by
  unfold hold sat
  rw [Bool.eq_iff_iff, List.all_eq_true, List.all_eq_true]
  have : ∀ c ∈ cs, c.any (opn A) = c.any (litT A) := by
    intro c hc
    rw [Bool.eq_iff_iff, List.any_eq_true, List.any_eq_true]
    constructor
    · rintro ⟨x, hx, h⟩
      refine ⟨x, hx, ?_⟩
      have := (hL c hc x hx).2
      unfold opn at h
      simpa [show ¬ A.length < x.natAbs by omega] using h
    · rintro ⟨x, hx, h⟩
      exact ⟨x, hx, by unfold opn; simp [h]⟩
  constructor <;> intro h c hc
  · rw [← this c hc]; exact h c hc
  · rw [this c hc]; exact h c hc
theorem sat_hold {cs : List (List Int)} {l r : List Bool} (hL : Lits (l ++ r).length cs) (h : sat cs (l ++ r) = true) : hold cs l = true := by
  rw [← hold_full hL] at h
  exact hold_prefix hL h
theorem complete_eq {cs : List (List Int)} {k : Nat} {l : List Bool} (hL : Lits (l.length + k) cs) : complete cs k l = (ext k l).find? (sat cs) := by
  induction k generalizing l with
  | zero =>
    unfold complete ext
    rw [hold_full hL]
    simp [List.find?_cons]
    cases sat cs l <;> rfl
  | succ k ih =>
    unfold complete
    by_cases h : hold cs l = true
    · rw [if_pos h, ih (by simpa [Nat.add_assoc, Nat.add_comm 1] using hL), ih (by simpa [Nat.add_assoc, Nat.add_comm 1] using hL), ext, List.find?_append]
    · rw [if_neg h]
      symm
      rw [List.find?_eq_none]
      intro A hA hs
      obtain ⟨r, h1, rfl⟩ := ext_mem.1 hA
      exact h (sat_hold (by simpa [h1] using hL) hs)
theorem complete_some {cs : List (List Int)} {k : Nat} {l x : List Bool} (hL : Lits (l.length + k) cs) (h : complete cs k l = some x) : x.length = l.length + k ∧ sat cs x = true ∧ x.take l.length = l := by
  rw [complete_eq hL] at h
  have h1 := List.mem_of_find?_eq_some h
  have h2 := List.find?_some h
  obtain ⟨r, h3, rfl⟩ := ext_mem.1 h1
  exact ⟨by simp [h3], h2, by simp⟩
/-- what can be completed -/
def okL (cs : List (List Int)) (V : Nat) (l : List Bool) : Bool := (complete cs (V - l.length) l).isSome
theorem okL_iff {cs : List (List Int)} {V : Nat} {l : List Bool} (hL : Lits V cs) (hl : l.length ≤ V) : okL cs V l = true ↔ ∃ A ∈ ext (V - l.length) l, sat cs A = true := by
  unfold okL
  rw [complete_eq (by rw [Nat.add_sub_cancel' hl]; exact hL)]
  simp
theorem okL_hold {cs : List (List Int)} {V : Nat} {l r : List Bool} (hL : Lits V cs) (hl : (l ++ r).length ≤ V) (h : okL cs V (l ++ r) = true) : hold cs l = true := by
  obtain ⟨A, hA, hs⟩ := (okL_iff hL hl).1 h
  obtain ⟨r2, h1, rfl⟩ := ext_mem.1 hA
  refine sat_hold (l := l) (r := r ++ r2) ?_ (by simpa using hs)
  have : (l ++ (r ++ r2)).length = V := by simp only [List.length_append] at h1 hl ⊢; omega
  rw [this]; exact hL
/-- the reference's list of assignments -/
def allR (cs : List (List Int)) (V most : Nat) : Nat → List Bool → List (List Bool) → List (List Bool)
  | 0, l, out => if most < out.length then out else if hold cs l then (if okL cs V l then out ++ [l] else out) else out
  | k + 1, l, out => if most < out.length then out else if hold cs l then allR cs V most k (l ++ [true]) (allR cs V most k (l ++ [false]) out) else out
theorem take_length_le {α : Type} {l : List α} {n : Nat} (h : l.length ≤ n) : l.take n = l := List.take_of_length_le h
theorem allR_eq {cs : List (List Int)} {V most : Nat} (hL : Lits V cs) {k : Nat} {l : List Bool} {out : List (List Bool)} (hl : l.length + k ≤ V) :
    allR cs V most k l out = if most < out.length then out else (out ++ (ext k l).filter (okL cs V)).take (most + 1) := by
  induction k generalizing l out with
  | zero =>
    unfold allR ext
    by_cases h : most < out.length
    · rw [if_pos h, if_pos h]
    · rw [if_neg h, if_neg h]
      by_cases hk : okL cs V l = true
      · have hh : hold cs l = true := okL_hold (r := []) hL (by simpa using hl) (by simpa using hk)
        rw [if_pos hh, if_pos hk, List.filter_cons_of_pos hk, List.filter_nil, take_length_le (by simp; omega)]
      · rw [if_neg hk, ite_self, List.filter_cons_of_neg hk, List.filter_nil, List.append_nil, take_length_le (by omega)]
  | succ k ih =>
    unfold allR
    by_cases h : most < out.length
    · rw [if_pos h, if_pos h]
    · rw [if_neg h, if_neg h]
      by_cases hh : hold cs l = true
      · rw [if_pos hh, ih (by simp; omega), ih (by simp; omega), if_neg h, ext, List.filter_append]
        split
        · rename_i h2
          rw [List.length_take, List.length_append] at h2
          rw [← List.append_assoc, List.take_append_of_le_length (l₁ := out ++ _) (by rw [List.length_append]; omega)]
        · rename_i h2
          rw [List.length_take, List.length_append] at h2
          rw [take_length_le (l := out ++ _) (by rw [List.length_append]; omega), List.append_assoc]
      · rw [if_neg hh]
        have : (ext (k + 1) l).filter (okL cs V) = [] := by
          rw [List.filter_eq_nil_iff]
          intro A hA hk
          obtain ⟨r, h1, rfl⟩ := ext_mem.1 hA
          exact hh (okL_hold hL (by simp; omega) hk)
        rw [this, List.append_nil, take_length_le (by omega)]
def numR (cs : List (List Int)) : Nat → List Bool → Nat
  | 0, l => if hold cs l then 1 else 0
  | k + 1, l => if hold cs l then numR cs k (l ++ [false]) + numR cs k (l ++ [true]) else 0
theorem numR_eq {cs : List (List Int)} {k : Nat} {l : List Bool} (hL : Lits (l.length + k) cs) : numR cs k l = (ext k l).countP (sat cs) := by
  induction k generalizing l with
  | zero =>
    unfold numR ext
    rw [hold_full hL, List.countP_cons, List.countP_nil]
    cases sat cs l <;> rfl
  | succ k ih =>
    unfold numR
    by_cases h : hold cs l = true
    · rw [if_pos h, ih (by simpa [Nat.add_assoc, Nat.add_comm 1] using hL), ih (by simpa [Nat.add_assoc, Nat.add_comm 1] using hL), ext, List.countP_append]
    · rw [if_neg h]
      symm
      rw [List.countP_eq_zero]
      intro A hA hs
      obtain ⟨r, h1, rfl⟩ := ext_mem.1 hA
      exact h (sat_hold (by simpa [h1] using hL) hs)
theorem ext_add (a b : Nat) (l : List Bool) : ext (a + b) l = (ext a l).flatMap (ext b) := by
  induction a generalizing l with
  | zero => simp [ext]
  | succ a ih => rw [Nat.add_right_comm, ext, ext, ih, ih, List.flatMap_append]
theorem ext_nodup (k : Nat) (l : List Bool) : (ext k l).Nodup := by
  induction k generalizing l with
  | zero => simp [ext]
  | succ k ih =>
    rw [ext, List.nodup_append]
    refine ⟨ih _, ih _, fun a ha b hb e => ?_⟩
    obtain ⟨r, _, rfl⟩ := ext_mem.1 ha
    obtain ⟨s, _, h⟩ := ext_mem.1 hb
    have h2 := congrArg (fun z : List Bool => z[l.length]?) (e.trans h)
    simp at h2
theorem ext_take {a b : Nat} {l A : List Bool} (h : A ∈ ext (a + b) l) : A.take (l.length + a) ∈ ext a l := by
  obtain ⟨r, h1, rfl⟩ := ext_mem.1 h
  exact ext_mem.2 ⟨r.take a, by simp; omega, by rw [List.take_append, List.take_of_length_le (by omega)]; simp⟩
/-! ### The list of all assignments of the first variables -/
def firsts (n : Nat) (S : List (List Bool)) : List (List Bool) := (S.map (List.take n)).eraseDups
theorem eraseDups_replicate {α : Type} [BEq α] [LawfulBEq α] (p : α) (k : Nat) (rest : List α) (h : p ∉ rest) : (List.replicate k p ++ rest).eraseDups = if 0 < k then p :: rest.eraseDups else rest.eraseDups := by
  cases k with
  | zero => simp
  | succ k =>
    rw [if_pos (Nat.succ_pos _), List.replicate_succ, List.cons_append, List.eraseDups_cons]
    congr 2
    rw [List.filter_append]
    have h1 : (List.replicate k p).filter (fun b => !b == p) = [] := by
      rw [List.filter_eq_nil_iff]
      intro a ha
      rw [(List.mem_replicate.1 ha).2]; simp
    rw [h1, List.nil_append, List.filter_eq_self]
    intro a ha
    simp
    rintro rfl
    exact h ha
theorem firsts_flat {n : Nat} {q : List Bool → Bool} {g : List Bool → List (List Bool)} {ok : List Bool → Bool} : ∀ {ps : List (List Bool)}, ps.Nodup → (∀ p ∈ ps, ∀ A ∈ g p, A.take n = p) → (∀ p ∈ ps, ok p = true ↔ ∃ A ∈ g p, q A = true) →
    firsts n ((ps.flatMap g).filter q) = ps.filter ok
  | [], _, _, _ => rfl
  | p :: ps, hn, ht, hok => by
    rw [List.nodup_cons] at hn
    have ih := firsts_flat (q := q) (g := g) (ok := ok) (n := n) hn.2 (fun p' hp => ht p' (by simp [hp])) (fun p' hp => hok p' (by simp [hp]))
    unfold firsts at ih ⊢
    rw [List.flatMap_cons, List.filter_append, List.map_append]
    have h1 : ((g p).filter q).map (List.take n) = List.replicate ((g p).filter q).length p := by
      rw [List.eq_replicate_iff]
      refine ⟨by simp, fun b hb => ?_⟩
      obtain ⟨A, hA, rfl⟩ := List.mem_map.1 hb
      exact ht p (by simp) A ((List.mem_filter.1 hA).1)
    have h2 : p ∉ ((ps.flatMap g).filter q).map (List.take n) := by
      intro h
      obtain ⟨A, hA, he⟩ := List.mem_map.1 h
      obtain ⟨p', hp', hA'⟩ := List.mem_flatMap.1 ((List.mem_filter.1 hA).1)
      rw [ht p' (by simp [hp']) A hA'] at he
      subst he
      exact hn.1 hp'
    rw [h1, eraseDups_replicate _ _ _ h2, ih, List.filter_cons]
    have h3 := hok p (by simp)
    by_cases h4 : ok p = true
    · rw [if_pos h4, if_pos]
      obtain ⟨A, hA, hq⟩ := h3.1 h4
      exact List.length_pos_of_mem (List.mem_filter.2 ⟨hA, hq⟩)
    · rw [if_neg h4, if_neg]
      intro h5
      obtain ⟨A, hA⟩ := List.exists_mem_of_length_pos h5
      exact h4 (h3.2 ⟨A, (List.mem_filter.1 hA).1, (List.mem_filter.1 hA).2⟩)
theorem firsts_eq {cs : List (List Int)} {V n : Nat} (hL : Lits V cs) (hn : n ≤ V) : firsts n ((ext V []).filter (sat cs)) = (ext n []).filter (okL cs V) := by
  have h := ext_add n (V - n) []
  rw [Nat.add_sub_cancel' hn] at h
  rw [h]
  refine firsts_flat (ext_nodup _ _) (fun p hp A hA => ?_) (fun p hp => ?_)
  · obtain ⟨r, h1, rfl⟩ := ext_mem.1 hA
    have := ext_length hp
    simp at this
    rw [← this]; simp
  · have := ext_length hp
    simp at this
    rw [okL_iff hL (by omega), this]
/-! ### The next assignment -/
/-- all lists behind one, in order -/
def aft : List Bool → List Bool → List (List Bool)
  | _, [] => []
  | l, b :: a => if b then aft (l ++ [true]) a else aft (l ++ [false]) a ++ ext a.length (l ++ [true])
def nx (cs : List (List Int)) (V : Nat) : List Bool → List Bool → Option (List Bool)
  | _, [] => none
  | l, b :: a => (nx cs V (l ++ [b]) a).or (if b then none else complete cs (V - (l.length + 1)) (l ++ [true]))
/-- as the loops go: from the last variable on -/
def nextR (cs : List (List Int)) (V : Nat) (after : List Bool) : Nat → Option (List Bool)
  | 0 => none
  | i + 1 => if after.getD i true then nextR cs V after i else (complete cs (V - (i + 1)) (after.take i ++ [true])).or (nextR cs V after i)
theorem nx_snoc (cs : List (List Int)) (V : Nat) (l a : List Bool) (b : Bool) : nx cs V l (a ++ [b]) = (if b then none else complete cs (V - (l.length + a.length + 1)) (l ++ a ++ [true])).or (nx cs V l a) := by
  induction a generalizing l with
  | nil => simp [nx]
  | cons c a ih =>
    rw [List.cons_append, nx, ih, nx, Option.or_assoc]
    simp [Nat.add_assoc, Nat.add_comm 1]
theorem nextR_nx (cs : List (List Int)) (V : Nat) (after : List Bool) : ∀ i, i ≤ after.length → nextR cs V after i = nx cs V [] (after.take i)
  | 0, _ => by simp [nextR, nx]
  | i + 1, h => by
    have hi : i < after.length := by omega
    rw [nextR, nextR_nx cs V after i (by omega), List.take_add_one, List.getElem?_eq_getElem hi]
    simp only [Option.toList_some]
    rw [nx_snoc]
    have hg : after.getD i true = after[i] := by simp [hi]
    rw [hg]
    cases after[i] with
    | true => simp
    | false => simp [Nat.min_eq_left (Nat.le_of_lt hi)]
theorem ext_aft (a : List Bool) : ∀ l, ∃ pre, ext a.length l = pre ++ (l ++ a) :: aft l a := by
  induction a with
  | nil => intro l; exact ⟨[], by simp [ext, aft]⟩
  | cons b a ih =>
    intro l
    rw [List.length_cons, ext, aft]
    cases b with
    | true =>
      obtain ⟨pre, h⟩ := ih (l ++ [true])
      exact ⟨ext a.length (l ++ [false]) ++ pre, by rw [h]; simp⟩
    | false =>
      obtain ⟨pre, h⟩ := ih (l ++ [false])
      exact ⟨pre, by rw [h]; simp⟩
theorem nx_eq {cs : List (List Int)} {V : Nat} (hL : Lits V cs) : ∀ (a l : List Bool), l.length + a.length ≤ V → nx cs V l a = ((aft l a).flatMap (ext (V - (l.length + a.length)))).find? (sat cs)
  | [], l, h => by simp [nx, aft]
  | b :: a, l, h => by
    rw [List.length_cons] at h
    rw [nx, nx_eq hL a (l ++ [b]) (by simp; omega), aft]
    have e1 : (l ++ [b]).length + a.length = l.length + (b :: a).length := by simp; omega
    rw [e1]
    cases b with
    | true => simp
    | false =>
      simp only [Bool.false_eq_true, if_false]
      rw [complete_eq (by simp; rw [Nat.add_sub_cancel' (by omega)]; exact hL), List.flatMap_append, List.find?_append]
      congr 2
      rw [← ext_add]
      congr 1
      simp; omega
theorem find_flat {α β : Type} (g : α → List β) (q : β → Bool) : ∀ l : List α, (l.flatMap g).find? q = l.findSome? fun e => (g e).find? q
  | [] => rfl
  | e :: l => by
    rw [List.flatMap_cons, List.find?_append, find_flat g q l, List.findSome?_cons]
    cases (g e).find? q <;> rfl
theorem nextR_order {cs : List (List Int)} {V n : Nat} (hL : Lits V cs) (hn : n ≤ V) {i : Nat} {a : List Bool} (ha : ((ext n []).filter (okL cs V))[i]? = some a) :
    ((ext n []).filter (okL cs V))[i + 1]? = (nextR cs V a n).map (List.take n) := by
  obtain ⟨L, hLe⟩ : ∃ L, (ext n []).filter (okL cs V) = L := ⟨_, rfl⟩
  rw [hLe] at ha ⊢
  have hm : a ∈ (ext n []).filter (okL cs V) := hLe ▸ List.mem_of_getElem? ha
  have hlen : a.length = n := by have := ext_length ((List.mem_filter.1 hm).1); simpa using this
  obtain ⟨pre, hpre⟩ := ext_aft a []
  rw [hlen, List.nil_append] at hpre
  have hLs : L = pre.filter (okL cs V) ++ a :: (aft [] a).filter (okL cs V) := by
    rw [← hLe, hpre, List.filter_append, List.filter_cons_of_pos (List.mem_filter.1 hm).2]
  have hnd : L.Nodup := hLe ▸ (ext_nodup n []).filter _
  have hi : i = (pre.filter (okL cs V)).length := by
    have h1 : L[(pre.filter (okL cs V)).length]? = some a := by rw [hLs]; simp
    obtain ⟨l1, e1⟩ := List.getElem?_eq_some_iff.1 ha
    obtain ⟨l2, e2⟩ := List.getElem?_eq_some_iff.1 h1
    exact (List.getElem_inj hnd).1 (e1.trans e2.symm)
  have h2 : L[i + 1]? = (aft [] a).find? (okL cs V) := by
    rw [hLs, hi, List.getElem?_append_right (by omega)]
    simp [← List.head?_filter, List.head?_eq_getElem?]
  have haf : ∀ e ∈ aft [] a, e.length = n := by
    intro e he
    have : e ∈ ext n [] := by rw [hpre]; simp [he]
    simpa using ext_length this
  rw [h2, nextR_nx _ _ _ _ (by omega), take_length_le (by omega), nx_eq hL a [] (by simp; omega), find_flat]
  simp only [List.length_nil, Nat.zero_add, hlen]
  generalize aft [] a = M at haf ⊢
  clear h2 hLs hpre
  induction M with
  | nil => rfl
  | cons e M ih =>
    have he := haf e (by simp)
    rw [List.find?_cons, List.findSome?_cons]
    have hk : okL cs V e = ((ext (V - n) e).find? (sat cs)).isSome := by
      unfold okL
      rw [complete_eq (by rw [Nat.add_sub_cancel' (by omega)]; exact hL), he]
    rw [hk]
    cases hf : (ext (V - n) e).find? (sat cs) with
    | none => simp only [Option.isSome_none]; exact ih (fun x hx => haf x (by simp [hx]))
    | some A =>
      obtain ⟨r, _, rfl⟩ := ext_mem.1 (List.mem_of_find?_eq_some hf)
      simp [← he]
end Go.Proofs.Sv
end

section
/- An engine that decides and turns: its decisions, what is left to search. Nothing of a program. -/
namespace Go.Proofs.Sv
set_option linter.unusedVariables false
set_option linter.unusedSimpArgs false
structure Core (V : Nat) (G : Int → Prop) (cl0 Cs cl : List (List Int)) (wt : Int → List Nat) (tr : List Int) (dn : Nat) : Prop where
  hcl : ClOk V cl
  htr : TrOk V tr
  hwt : WtOk cl wt
  hwat : Wat cl (tr.take dn) tr
  hcks : ∀ P ∈ Cs, Wat cl P P
  hpcs : ∀ P ∈ Cs, P <+: tr
  hperm : Perms cl0 cl
  hg : ∀ y ∈ tr, G y
structure Conf (V : Nat) (G : Int → Prop) (cl0 Cs cl : List (List Int)) (wt : Int → List Nat) (tr : List Int) : Prop where
  hcl : ClOk V cl
  htr : TrOk V tr
  hwt : WtOk cl wt
  hcks : ∀ P ∈ Cs, Wat cl P P
  hperm : Perms cl0 cl
  hg : ∀ y ∈ tr, G y
  hbad : ∃ c ∈ cl, ∀ z ∈ c, -z ∈ tr
theorem upd_same (f : Int → List Nat) (x : Int) : upd f x (f x) = f := by
  funext z; unfold upd; split
  · rename_i h; rw [h]
  · rfl
section
variable {V : Nat} {G : Int → Prop} {cl0 Cs cl : List (List Int)} {wt : Int → List Nat} {tr : List Int} {dn : Nat} {x : Int} {s : St}
theorem Core.start (h : Core V G cl0 Cs cl wt tr dn) : VI V G cl0 Cs (tr.take dn) tr x ⟨cl, wt, tr, []⟩ (wt x) :=
  ⟨h.hcl, h.htr, by simp only [List.nil_append, upd_same]; exact h.hwt, h.hwat, h.hcks, List.prefix_refl _, by simp, h.hperm, h.hg⟩
theorem VI.final (h : VI V G cl0 Cs (tr.take dn) tr x s []) (hx : tr[dn]? = some (-x)) (hp : ∀ P ∈ Cs, P <+: tr) : Core V G cl0 Cs s.cl (upd s.wt x s.kp) s.tr (dn + 1) := by
  have hd := (List.getElem?_eq_some_iff.1 hx).1
  have ht : s.tr.take (dn + 1) = tr.take dn ++ [-x] := by
    have h1 := List.prefix_iff_eq_take.1 h.pre
    have h2 : s.tr.take (dn + 1) = (s.tr.take tr.length).take (dn + 1) := by rw [List.take_take, Nat.min_eq_left (by omega)]
    rw [h2, ← h1, List.take_add_one, hx]; rfl
  refine ⟨h.cl, h.tr, by simpa using h.wt, ?_, h.cks, fun P hP => (hp P hP).trans h.pre, h.perm, h.g⟩
  rw [ht]
  intro c hc a b h0 h1
  have hw := h.wat c hc a b h0 h1
  obtain ⟨k, hk, rfl⟩ := List.getElem_of_mem hc
  have hkc := List.getElem?_eq_getElem hk
  have hkp : ∀ y, (s.cl[k][0]? = some y ∨ s.cl[k][1]? = some y) → y = x → k ∈ s.kp := by
    rintro y hy rfl
    have := ((h.wt y).2 k).2 ⟨_, hkc, hy⟩
    simpa [upd] using this
  refine ⟨fun e => ?_, fun e => ?_⟩
  · rcases List.mem_append.1 e with e | e
    · exact hw.1 e
    · have e2 : a = x := by simpa using e
      exact (h.kept k (hkp a (.inl h0) e2) _ a b hkc h0 h1).1 e2
  · rcases List.mem_append.1 e with e | e
    · exact hw.2 e
    · have e2 : b = x := by simpa using e
      exact (h.kept k (hkp b (.inr h1) e2) _ a b hkc h0 h1).2 e2
theorem VC.final {tr0 : List Int} {rest : List Nat} (h : VC V G cl0 Cs tr0 x s rest) : Conf V G cl0 Cs s.cl (upd s.wt x (s.kp ++ rest)) s.tr := ⟨h.cl, h.tr, h.wt, h.cks, h.perm, h.g, h.bad⟩
end
/-! ### Decisions -/
structure Dec where
  v : Nat
  t : Nat
  tn : Bool
def dlit (d : Dec) : Int := if d.tn then (d.v : Int) else -(d.v : Int)
def agr (D : List Dec) (A : List Bool) : Bool := D.all fun d => litT A (dlit d)
def branch : List Dec → List Bool → Bool
  | [], _ => false
  | d :: D, A => (!d.tn && agr D A && !litT A (dlit d)) || branch D A
def left (D : List Dec) (A : List Bool) : Bool := agr D A || branch D A
theorem agr_cons (d : Dec) (D : List Dec) (A : List Bool) : agr (d :: D) A = (litT A (dlit d) && agr D A) := rfl
/-- the last decision that can be changed -/
def turnF (n : Nat) : List Dec → Option (List Dec)
  | [] => none
  | d :: D => if d.tn = false ∧ d.v ≤ n then some (⟨d.v, d.t, true⟩ :: D) else turnF n D
theorem litT_neg {A : List Bool} {x : Int} (h0 : x ≠ 0) : litT A (-x) = !litT A x := by
  unfold litT
  rw [Int.natAbs_neg]
  have e : decide (0 < -x) = !decide (0 < x) := by
    by_cases h : 0 < x
    · rw [decide_eq_true h, decide_eq_false (by omega)]; rfl
    · rw [decide_eq_false h, decide_eq_true (by omega)]; rfl
  rw [e]
  cases A.getD (x.natAbs - 1) false <;> cases decide (0 < x) <;> rfl
theorem litT_var {A : List Bool} {v : Nat} (h : 1 ≤ v) : litT A (v : Int) = A.getD (v - 1) false := by
  unfold litT
  have : decide (0 < (v : Int)) = true := by simp; omega
  rw [this]; simp
theorem litT_nvar {A : List Bool} {v : Nat} (h : 1 ≤ v) : litT A (-(v : Int)) = !A.getD (v - 1) false := by
  rw [litT_neg (by omega), litT_var h]
theorem branch_not_agr : ∀ {D : List Dec} {A : List Bool}, branch D A = true → agr D A = false
  | d :: D, A, h => by
    rw [branch, Bool.or_eq_true] at h
    rw [agr_cons]
    rcases h with h | h
    · simp only [Bool.and_eq_true, Bool.not_eq_true'] at h
      rw [h.2]; rfl
    · rw [branch_not_agr h]; simp
section
variable (V : Nat) (M : List Bool → Prop) (U : List Int)
/-- the decisions, the last first, and the trail -/
def SInv : List Dec → List Int → Prop
  | [], tr => U <+: tr ∧ ∀ A, M A → ∀ x ∈ tr, litT A x = true
  | d :: D, tr => SInv D (tr.take d.t) ∧ tr[d.t]? = some (dlit d) ∧ (1 ≤ d.v ∧ d.v ≤ V) ∧ (∀ u : Nat, 1 ≤ u → u < d.v → (u : Int) ∈ tr.take d.t ∨ -(u : Int) ∈ tr.take d.t) ∧ ∀ A, M A → agr (d :: D) A = true → ∀ x ∈ tr, litT A x = true
end
/-- the beginnings of the trail that are gone back to -/
def chk : List Dec → List Int → List (List Int)
  | [], _ => []
  | d :: D, tr => tr.take d.t :: chk D (tr.take d.t)
section
variable {V : Nat} {M : List Bool → Prop} {U : List Int}
theorem SInv.sound : ∀ {D : List Dec} {tr : List Int}, SInv V M U D tr → ∀ A, M A → agr D A = true → ∀ x ∈ tr, litT A x = true
  | [], tr, h, A, hA, _, x, hx => h.2 A hA x hx
  | d :: D, tr, h, A, hA, hg, x, hx => h.2.2.2.2 A hA hg x hx
theorem SInv.pre : ∀ {D : List Dec} {tr : List Int}, SInv V M U D tr → U <+: tr
  | [], tr, h => h.1
  | d :: D, tr, h => (SInv.pre h.1).trans (List.take_prefix _ _)
theorem take_of_prefix {α : Type} {a b : List α} (h : a <+: b) {n : Nat} (hn : n ≤ a.length) : b.take n = a.take n := by
  obtain ⟨r, rfl⟩ := h
  exact List.take_append_of_le_length hn
theorem SInv.grow {D : List Dec} {tr tr' : List Int} (h : SInv V M U D tr) (hp : tr <+: tr') (hs : ∀ A, M A → agr D A = true → ∀ x ∈ tr', litT A x = true) : SInv V M U D tr' := by
  cases D with
  | nil => exact ⟨h.1.trans hp, fun A hA => hs A hA rfl⟩
  | cons d D =>
    obtain ⟨h1, h2, h3, h4, _⟩ := h
    have hd := (List.getElem?_eq_some_iff.1 h2).1
    have ht := take_of_prefix hp (Nat.le_of_lt hd)
    have hg : tr'[d.t]? = some (dlit d) := by
      obtain ⟨r, rfl⟩ := hp
      rw [List.getElem?_append_left hd]; exact h2
    exact ⟨by rw [ht]; exact h1, hg, h3, by rw [ht]; exact h4, hs⟩
theorem chk_grow {D : List Dec} {tr tr' : List Int} (h : SInv V M U D tr) (hp : tr <+: tr') : chk D tr' = chk D tr := by
  cases D with
  | nil => rfl
  | cons d D =>
    have hd := (List.getElem?_eq_some_iff.1 h.2.1).1
    rw [chk, chk, take_of_prefix hp (Nat.le_of_lt hd)]
theorem chk_pre : ∀ {D : List Dec} {tr : List Int}, ∀ P ∈ chk D tr, P <+: tr
  | d :: D, tr, P, h => by
    rw [chk, List.mem_cons] at h
    rcases h with rfl | h
    · exact List.take_prefix _ _
    · exact (chk_pre P h).trans (List.take_prefix _ _)
/-- what is granted under decisions -/
def Gr (M : List Bool → Prop) (D : List Dec) (y : Int) : Prop := ∀ A, M A → agr D A = true → litT A y = true
theorem unit_Gr {cl0 : List (List Int)} (hc : ClOk V cl0) (hM : ∀ A, M A → sat cl0 A = true) (D : List Dec) : Unit (Gr M D) cl0 := by
  intro c hcm y hy hz A hA hg
  have h := hM A hA
  unfold sat at h
  rw [List.all_eq_true] at h
  have h1 := h c hcm
  rw [List.any_eq_true] at h1
  obtain ⟨z, hzm, ht⟩ := h1
  by_cases e : z = y
  · rw [← e]; exact ht
  · have := hz z hzm e A hA hg
    rw [litT_neg ((hc c hcm).2.2 z hzm).1, ht] at this
    cases this
theorem sat_perm {cl0 cl : List (List Int)} (h : Perms cl0 cl) (A : List Bool) : sat cl A = sat cl0 A := by
  unfold sat
  rw [Bool.eq_iff_iff, List.all_eq_true, List.all_eq_true]
  constructor
  · intro h1 c hc
    obtain ⟨c1, hc1, hp⟩ := h.mem' hc
    have := h1 c1 hc1
    rw [List.any_eq_true] at this ⊢
    obtain ⟨z, hz, ht⟩ := this
    exact ⟨z, hp.mem_iff.1 hz, ht⟩
  · intro h1 c hc
    obtain ⟨c1, hc1, hp⟩ := h.mem hc
    have := h1 c1 hc1
    rw [List.any_eq_true] at this ⊢
    obtain ⟨z, hz, ht⟩ := this
    exact ⟨z, hp.mem_iff.2 hz, ht⟩
/-- the engine between its steps, but for what was visited -/
structure BI (V : Nat) (M : List Bool → Prop) (U : List Int) (cl0 : List (List Int)) (D : List Dec) (cl : List (List Int)) (wt : Int → List Nat) (tr : List Int) : Prop where
  hcl : ClOk V cl
  htr : TrOk V tr
  hwt : WtOk cl wt
  hcks : ∀ P ∈ chk D tr, Wat cl P P
  hperm : Perms cl0 cl
  s : SInv V M U D tr
structure EI (V : Nat) (M : List Bool → Prop) (U : List Int) (cl0 : List (List Int)) (D : List Dec) (cl : List (List Int)) (wt : Int → List Nat) (tr : List Int) (dn : Nat) : Prop where
  b : BI V M U cl0 D cl wt tr
  hwat : Wat cl (tr.take dn) tr
variable {cl0 cl : List (List Int)} {wt : Int → List Nat} {tr : List Int} {dn : Nat} {D : List Dec} {d : Dec}
theorem EI.core (h : EI V M U cl0 D cl wt tr dn) : Core V (Gr M D) cl0 (chk D tr) cl wt tr dn :=
  ⟨h.b.hcl, h.b.htr, h.b.hwt, h.hwat, h.b.hcks, chk_pre, h.b.hperm, fun y hy A hA hg => h.b.s.sound A hA hg y hy⟩
theorem Core.ei {cl' : List (List Int)} {wt' : Int → List Nat} {tr' : List Int} {dn' : Nat} (hb : SInv V M U D tr) (hp : tr <+: tr') (h : Core V (Gr M D) cl0 (chk D tr) cl' wt' tr' dn') : EI V M U cl0 D cl' wt' tr' dn' :=
  ⟨⟨h.hcl, h.htr, h.hwt, by rw [chk_grow hb hp]; exact h.hcks, h.hperm, hb.grow hp fun A hA hg x hx => h.hg x hx A hA hg⟩, h.hwat⟩
theorem Conf.bi {cl' : List (List Int)} {wt' : Int → List Nat} {tr' : List Int} (hb : SInv V M U D tr) (hp : tr <+: tr') (h : Conf V (Gr M D) cl0 (chk D tr) cl' wt' tr') : BI V M U cl0 D cl' wt' tr' :=
  ⟨h.hcl, h.htr, h.hwt, by rw [chk_grow hb hp]; exact h.hcks, h.hperm, hb.grow hp fun A hA hg x hx => h.hg x hx A hA hg⟩
/-- a conflict: nothing agrees with the decisions -/
theorem Conf.none (hM : ∀ A, M A → sat cl0 A = true) {Cs : List (List Int)} (h : Conf V (Gr M D) cl0 Cs cl wt tr) {A : List Bool} (hA : M A) : agr D A = false := by
  cases hg : agr D A with
  | false => rfl
  | true =>
    exfalso
    obtain ⟨c, hc, hz⟩ := h.hbad
    have h1 := hM A hA
    rw [← sat_perm h.hperm] at h1
    unfold sat at h1
    rw [List.all_eq_true] at h1
    have h2 := h1 c hc
    rw [List.any_eq_true] at h2
    obtain ⟨z, hzm, ht⟩ := h2
    have := h.hg _ (hz z hzm) A hA hg
    rw [litT_neg ((h.hcl c hc).2.2 z hzm).1, ht] at this
    cases this
theorem TrOk.take (h : TrOk V tr) (n : Nat) : TrOk V (tr.take n) := ⟨fun x hx => h.1 x (List.mem_of_mem_take hx), by rw [List.map_take]; exact h.2.sublist (List.take_sublist _ _)⟩
theorem BI.back (h : BI V M U cl0 (d :: D) cl wt tr) : EI V M U cl0 D cl wt (tr.take d.t) d.t := by
  refine ⟨⟨h.hcl, h.htr.take _, h.hwt, fun P hP => h.hcks P (by simp [chk, hP]), h.hperm, h.s.1⟩, ?_⟩
  rw [List.take_take, Nat.min_self]
  exact h.hcks _ (by simp [chk])
theorem EI.decide (h : EI V M U cl0 D cl wt tr tr.length) {v : Nat} {tn : Bool} (h1 : 1 ≤ v ∧ v ≤ V) (hv : (v : Int) ∉ tr ∧ -(v : Int) ∉ tr) (hb : ∀ u : Nat, 1 ≤ u → u < v → (u : Int) ∈ tr ∨ -(u : Int) ∈ tr) :
    EI V M U cl0 (⟨v, tr.length, tn⟩ :: D) cl wt (tr ++ [dlit ⟨v, tr.length, tn⟩]) tr.length := by
  have htk : (tr ++ [dlit ⟨v, tr.length, tn⟩]).take tr.length = tr := by simp
  have hw := h.hwat
  rw [List.take_length] at hw
  have hl : (dlit ⟨v, tr.length, tn⟩).natAbs = v := by unfold dlit; cases tn <;> simp
  refine ⟨⟨h.b.hcl, ⟨?_, ?_⟩, h.b.hwt, ?_, h.b.hperm, ?_⟩, ?_⟩
  · intro x hx
    rcases List.mem_append.1 hx with hx | hx
    · exact h.b.htr.1 x hx
    · simp at hx; subst hx; omega
  · rw [List.map_append, List.nodup_append]
    refine ⟨h.b.htr.2, by simp, fun p hp q hq e => ?_⟩
    simp [hl] at hq
    subst hq; subst e
    obtain ⟨z, hz, hza⟩ := List.mem_map.1 hp
    rcases Int.natAbs_eq z with e | e
    · rw [hza] at e; rw [e] at hz; exact hv.1 hz
    · rw [hza] at e; rw [e] at hz; exact hv.2 hz
  · intro P hP
    rw [chk, List.mem_cons] at hP
    simp only [htk] at hP
    rcases hP with rfl | hP
    · exact hw
    · exact h.b.hcks P hP
  · refine ⟨by simp only [htk]; exact h.b.s, by simp, h1, by simp only [htk]; exact hb, fun A hA hg x hx => ?_⟩
    rw [agr_cons, Bool.and_eq_true] at hg
    rcases List.mem_append.1 hx with hx | hx
    · exact h.b.s.sound A hA hg.2 x hx
    · simp at hx; rw [hx]; exact hg.1
  · rw [htk]; exact hw.grow fun x hx => by simp [hx]
/-- the last decision that can be changed, changed; the trail is what lay before it -/
theorem BI.turn {n : Nat} : ∀ {D : List Dec} {tr : List Int}, BI V M U cl0 D cl wt tr → ∀ {D' : List Dec}, turnF n D = some D' → ∃ (d : Dec) (D0 : List Dec), D' = ⟨d.v, d.t, true⟩ :: D0 ∧ d.t ≤ tr.length ∧
    EI V M U cl0 D' cl wt (tr.take d.t ++ [(d.v : Int)]) d.t
  | d :: D, tr, h, D', ht => by
    unfold turnF at ht
    have hlt := (List.getElem?_eq_some_iff.1 h.s.2.1).1
    split at ht
    · rename_i hc
      cases ht
      refine ⟨d, D, rfl, by omega, ?_⟩
      have hb := h.back
      have hlen : (tr.take d.t).length = d.t := by simp; omega
      have hnv : (d.v : Int) ∉ tr.take d.t ∧ -(d.v : Int) ∉ tr.take d.t := by
        have hm : dlit d = -(d.v : Int) := by unfold dlit; rw [hc.1]; rfl
        have hg := h.s.2.1
        rw [hm] at hg
        obtain ⟨_, hge⟩ := List.getElem?_eq_some_iff.1 hg
        have inj : ∀ y : Int, y ∈ tr.take d.t → y.natAbs ≠ d.v := by
          intro y hy e
          obtain ⟨i, hi, rfl⟩ := List.getElem_of_mem hy
          simp at hi
          rw [List.getElem_take] at e
          have a1 : (tr.map Int.natAbs)[i]'(by simp; omega) = (tr.map Int.natAbs)[d.t]'(by simpa using hlt) := by simp [hge, e]
          have := (List.getElem_inj h.htr.2).1 a1
          omega
        exact ⟨fun e => inj _ e (by simp), fun e => inj _ e (by simp)⟩
      have := EI.decide (tn := true) (v := d.v) (by rw [hlen]; exact hb) h.s.2.2.1 hnv h.s.2.2.2.1
      rw [hlen] at this
      exact this
    · obtain ⟨d', D0, e1, e2, e3⟩ := BI.turn h.back.b ht
      have hle : d'.t ≤ d.t := by simp at e2; omega
      rw [List.take_take, Nat.min_eq_left hle] at e3
      exact ⟨d', D0, e1, by omega, e3⟩
end
end Go.Proofs.Sv
end

section
/- Refutations are sound; what a search for one gathers. Nothing of a program. -/
namespace Go.Proofs.Rp
open Go.Proofs.Sv
set_option linter.unusedVariables false
set_option linter.unusedSimpArgs false
def NoZ (F : List (List Int)) : Prop := ∀ C ∈ F, ∀ x ∈ C, x ≠ 0
theorem der_sound {F : List (List Int)} {L : List Int} {A : List Bool} (h0 : NoZ F) (hs : sat F A = true) (hl : ∀ x ∈ L, x ≠ 0 ∧ litT A x = true) {x : Int} (h : Der F L x) : x ≠ 0 ∧ litT A x = true := by
  refine h.least hl (G := fun x => x ≠ 0 ∧ litT A x = true) fun C hC y hy ho => ⟨h0 C hC y hy, ?_⟩
  obtain ⟨z, hz, hzt⟩ := List.any_eq_true.1 (List.all_eq_true.1 hs C hC)
  by_cases e : z = y
  · rwa [e] at hzt
  · have := (ho z hz e).2
    rw [litT_neg (h0 C hC z hz), hzt] at this
    cases this
theorem cnf_sound {F : List (List Int)} {L : List Int} {A : List Bool} (h0 : NoZ F) (hs : sat F A = true) (hl : ∀ x ∈ L, x ≠ 0 ∧ litT A x = true) : ¬ Cnf F L := by
  rintro (⟨x, h1, h2⟩ | h)
  · obtain ⟨a0, a1⟩ := der_sound h0 hs hl h1
    have := (der_sound h0 hs hl h2).2
    rw [litT_neg a0, a1] at this
    cases this
  · have := List.all_eq_true.1 hs [] h
    simp at this
theorem fol_sound {F : List (List Int)} {c : List Int} {A : List Bool} (h0 : NoZ F) (hc : ∀ x ∈ c, x ≠ 0) (hs : sat F A = true) (h : folB F c = true) : c.any (litT A) = true := by
  cases hx : c.any (litT A) with
  | true => rfl
  | false =>
    refine absurd (folB_iff.1 h) (cnf_sound h0 hs fun x hx2 => ?_)
    rw [mem_neg] at hx2
    have h1 := hc _ hx2
    refine ⟨by omega, ?_⟩
    rw [List.any_eq_false] at hx
    have h2 := hx _ hx2
    have h3 := litT_neg (A := A) h1
    rw [Int.neg_neg] at h3
    rw [h3]
    simpa using h2
theorem all_sound : ∀ {p F : List (List Int)} {A : List Bool}, NoZ F → NoZ p → sat F A = true → allF F p = true → sat p A = true
  | [], F, A, h0, hp, hs, h => rfl
  | c :: p, F, A, h0, hp, hs, h => by
    unfold allF at h
    rw [Bool.and_eq_true] at h
    have h1 := fol_sound h0 (hp c (by simp)) hs h.1
    have h2 : sat (F ++ [c]) A = true := by
      unfold sat at hs ⊢
      rw [List.all_append, hs]; simp [h1]
    have h3 := all_sound (F := F ++ [c]) (fun C hC => by
      rcases List.mem_append.1 hC with hC | hC
      · exact h0 C hC
      · simp at hC; rw [hC]; exact hp c (by simp)) (fun C hC => hp C (by simp [hC])) h2 h.2
    unfold sat at h3 ⊢
    rw [List.all_cons, h1, h3]; rfl
theorem acc_sound {p F : List (List Int)} {A : List Bool} (h0 : NoZ F) (hp : NoZ p) (h : accB F p = true) : sat F A = false := by
  cases hs : sat F A with
  | false => rfl
  | true =>
    rw [accB_iff] at h
    have h1 := all_sound h0 hp hs h.1
    have hm : [] ∈ p := List.mem_of_getLast? h.2
    have := List.all_eq_true.1 h1 [] hm
    simp at this
/-! ### A search -/
theorem neg_neg (D : List Int) : neg (neg D) = D := by
  unfold neg; rw [List.map_map]
  conv => rhs; rw [← List.map_id D]
  refine List.map_congr_left fun x _ => ?_
  simp
theorem neg_snoc (D : List Int) (x : Int) : neg (D ++ [x]) = neg D ++ [-x] := by simp [neg]
/-- a decision all of whose cases are excluded is excluded -/
theorem fol_join {F : List (List Int)} {D : List Int} {x : Int} (h1 : neg (D ++ [x]) ∈ F) (h2 : neg (D ++ [-x]) ∈ F) : folB F (neg D) = true := by
  rw [folB_iff, neg_neg]
  rw [neg_snoc] at h1 h2
  rw [Int.neg_neg] at h2
  have key : ∀ (y : Int), neg D ++ [y] ∈ F → Der F D y := fun y hy => by
    refine .unit hy (by simp) fun z hz hne => ?_
    rcases List.mem_append.1 hz with hz | hz
    · exact .asm (mem_neg.1 hz)
    · simp at hz; exact absurd hz hne
  exact .inl ⟨x, key x h2, key (-x) h1⟩
/-- what a search adds to a proof -/
structure Adds (F P : List (List Int)) (D : List Int) (m : Nat) (L : List (List Int)) : Prop where
  fol : allF (F ++ P) L = true
  last : L.getLast? = some (neg D)
  len : L.length + 1 ≤ 2 ^ (m + 1)
theorem Adds.mem {F P : List (List Int)} {D : List Int} {m : Nat} {L : List (List Int)} (h : Adds F P D m L) : neg D ∈ L := List.mem_of_getLast? h.last
theorem Adds.leaf {F P : List (List Int)} {D : List Int} {m : Nat} (h : Cnf F D) : Adds F P D m [neg D] := by
  have : (2 : Nat) ^ 1 ≤ 2 ^ (m + 1) := Nat.pow_le_pow_right (by omega) (by omega)
  refine ⟨?_, rfl, by simp; omega⟩
  unfold allF
  rw [Bool.and_eq_true]
  refine ⟨folB_iff.2 ?_, rfl⟩
  rw [neg_neg]
  exact h.mono (Sub.of_mem fun C hC => by simp [hC]) fun x h => h
theorem Adds.join {F P : List (List Int)} {D : List Int} {m : Nat} {x : Int} {L1 L2 : List (List Int)} (h1 : Adds F P (D ++ [x]) m L1) (h2 : Adds F (P ++ L1) (D ++ [-x]) m L2) : Adds F P D (m + 1) (L1 ++ L2 ++ [neg D]) := by
  refine ⟨?_, by rw [List.getLast?_append]; rfl, ?_⟩
  · rw [allF_append, allF_append, Bool.and_eq_true, Bool.and_eq_true]
    refine ⟨⟨h1.fol, by have := h2.fol; rwa [← List.append_assoc] at this⟩, ?_⟩
    unfold allF
    rw [Bool.and_eq_true]
    exact ⟨fol_join (x := x) (by simp [h1.mem]) (by simp [h2.mem]), rfl⟩
  · have a := h1.len
    have b := h2.len
    have : 2 ^ (m + 1 + 1) = 2 * 2 ^ (m + 1) := by rw [Nat.pow_succ]; omega
    simp only [List.length_append, List.length_singleton]
    omega
theorem Adds.more {F P : List (List Int)} {D : List Int} {m m' : Nat} {L : List (List Int)} (h : Adds F P D m L) (hm : m ≤ m') : Adds F P D m' L := ⟨h.fol, h.last, by
  have : (2 : Nat) ^ (m + 1) ≤ 2 ^ (m' + 1) := Nat.pow_le_pow_right (by omega) (by omega)
  have := h.len
  omega⟩
/-- what was gathered from nothing is accepted -/
theorem Adds.acc {F : List (List Int)} {m : Nat} {L : List (List Int)} (h : Adds F [] [] m L) : accB F L = true := by
  rw [accB_iff]
  exact ⟨by have := h.fol; rwa [List.append_nil] at this, h.last⟩
/-- the values that a trail gives -/
def valsOf (V : Nat) (tr : List Int) : List Bool := (List.range V).map fun v : Nat => decide (((v : Int) + 1) ∈ tr)
theorem litT_vals {V : Nat} {tr : List Int} (ht : TrOk V tr) {x : Int} (hx : x ∈ tr) : litT (valsOf V tr) x = true := by
  obtain ⟨h0, h1⟩ := ht.1 x hx
  unfold litT valsOf
  rw [List.getD_eq_getElem?_getD, List.getElem?_map, List.getElem?_range (by omega)]
  simp only [Option.map_some, Option.getD_some]
  by_cases hp : 0 < x
  · have : ((x.natAbs - 1 : Nat) : Int) + 1 = x := by omega
    rw [this]; simp [hx, hp]
  · have : ((x.natAbs - 1 : Nat) : Int) + 1 = -x := by omega
    rw [this]
    have := ht.not_both hx
    simp [this, hp]
/-- all variables have values, and nothing is false -/
theorem full_sat {d : List Int → List Int} (hm : ∀ l x, x ∈ d l ↔ x ∈ l) {V : Nat} {F : List (List Int)} {tr : List Int} (hL : Lits V F) (ht : TrOk V tr) (hn : noneOf d F = false) (hu : ∀ x ∈ onesOf d F, x ∈ tr)
    (hcl : Unit (· ∈ tr) (bigsOf d F)) (hfull : ∀ v : Nat, 1 ≤ v → v ≤ V → (v : Int) ∈ tr ∨ -(v : Int) ∈ tr) : sat F (valsOf V tr) = true := by
  refine List.all_eq_true.2 fun C hC => ?_
  cases hx : C.any (litT (valsOf V tr)) with
  | true => rfl
  | false =>
    exfalso
    rw [List.any_eq_false] at hx
    have hno : ∀ x ∈ C, x ∉ tr := fun x hx1 hx2 => hx x hx1 (litT_vals ht hx2)
    have hnt : ∀ x ∈ C, -x ∈ tr := fun x hx1 => by
      obtain ⟨a, b⟩ := hL C hC x hx1
      have := hfull x.natAbs (by omega) b
      rcases Int.natAbs_eq x with e | e
      · rw [← e] at this
        exact this.resolve_left (hno x hx1)
      · have e2 : (x.natAbs : Int) = -x := by omega
        rw [e2, Int.neg_neg] at this
        exact this.resolve_right (hno x hx1)
    have hne : C ≠ [] := fun e => by
      have := (noneOf_iff hm F).2 (by rw [← e]; exact hC)
      rw [hn] at this; cases this
    obtain ⟨x, hxC⟩ := List.exists_mem_of_ne_nil C hne
    cases htt : tautB (d C) with
    | true =>
      obtain ⟨z, hz, hzn⟩ := List.any_eq_true.1 htt
      rw [hm] at hz
      have hzn : -z ∈ C := by rw [← hm]; simpa using hzn
      have := hnt _ hzn
      rw [Int.neg_neg] at this
      exact hno z hz this
    | false =>
      by_cases hl : 2 ≤ (d C).length
      · exact hno x hxC (hcl (d C) (List.mem_filter.2 ⟨List.mem_map.2 ⟨C, hC, rfl⟩, by simp [htt, hl]⟩) x ((hm _ _).2 hxC) fun y hy _ => hnt y ((hm _ _).1 hy))
      · have hxd : x ∈ d C := (hm _ _).2 hxC
        have : d C = [x] := by
          cases hc : d C with
          | nil => rw [hc] at hxd; cases hxd
          | cons z l =>
            rw [hc] at hl hxd
            cases l with
            | nil => simp at hxd; rw [hxd]
            | cons u l => simp at hl
        exact hno x hxC (hu x (List.mem_filterMap.2 ⟨d C, List.mem_map.2 ⟨C, hC, rfl⟩, by rw [this]⟩))
/-- the variables without a value -/
def openV (V : Nat) (tr : List Int) : Nat := ((List.range V).filter fun v : Nat => !decide (((v : Int) + 1) ∈ tr) && !decide (-((v : Int) + 1) ∈ tr)).length
theorem openV_le (V : Nat) (tr : List Int) : openV V tr ≤ V := by
  have := List.length_filter_le (fun v : Nat => !decide (((v : Int) + 1) ∈ tr) && !decide (-((v : Int) + 1) ∈ tr)) (List.range V)
  rw [List.length_range] at this
  exact this
theorem filter_len_le {α : Type} {p q : α → Bool} : ∀ {l : List α}, (∀ x ∈ l, p x = true → q x = true) → (l.filter p).length ≤ (l.filter q).length
  | [], h => by simp
  | x :: l, h => by
    have ih := filter_len_le (p := p) (q := q) (l := l) fun y hy => h y (by simp [hy])
    rw [List.filter_cons, List.filter_cons]
    split
    · rename_i hp
      rw [if_pos (h x (by simp) hp), List.length_cons, List.length_cons]; omega
    · split
      · rw [List.length_cons]; omega
      · exact ih
theorem filter_len_lt {α : Type} {p q : α → Bool} {l : List α} {x : α} (hx : x ∈ l) (h : ∀ x ∈ l, p x = true → q x = true) (h1 : p x = false) (h2 : q x = true) : (l.filter p).length < (l.filter q).length := by
  obtain ⟨l1, l2, rfl⟩ := List.append_of_mem hx
  rw [List.filter_append, List.filter_append, List.length_append, List.length_append, List.filter_cons_of_neg (by rw [h1]; exact Bool.false_ne_true), List.filter_cons_of_pos h2, List.length_cons]
  have a := filter_len_le (l := l1) (p := p) (q := q) fun y hy => h y (by simp [hy])
  have b := filter_len_le (l := l2) (p := p) (q := q) fun y hy => h y (by simp [hy])
  omega
theorem openV_lt {V : Nat} {tr tr' : List Int} (hp : ∀ x ∈ tr, x ∈ tr') {v : Nat} (h1 : 1 ≤ v) (h2 : v ≤ V) (hv : (v : Int) ∉ tr ∧ -(v : Int) ∉ tr) (hv' : (v : Int) ∈ tr' ∨ -(v : Int) ∈ tr') : openV V tr' < openV V tr := by
  have e : ((v - 1 : Nat) : Int) + 1 = v := by omega
  refine filter_len_lt (x := v - 1) (List.mem_range.2 (by omega)) (fun x _ h => ?_) ?_ ?_
  · simp only [Bool.and_eq_true, Bool.not_eq_true', decide_eq_false_iff_not] at h ⊢
    exact ⟨fun e => h.1 (hp _ e), fun e => h.2 (hp _ e)⟩
  · rw [e]
    rcases hv' with h | h <;> simp [h]
  · rw [e]; simp [hv.1, hv.2]
theorem openV_zero {V : Nat} {tr : List Int} (h : ∀ v : Nat, 1 ≤ v → v ≤ V → (v : Int) ∈ tr ∨ -(v : Int) ∈ tr) : openV V tr = 0 := by
  unfold openV
  rw [List.length_eq_zero_iff, List.filter_eq_nil_iff]
  intro v hv
  have := h (v + 1) (by omega) (by have := List.mem_range.1 hv; omega)
  rw [Int.natCast_add, Int.natCast_one] at this
  rcases this with h | h <;> simp [h]
end Go.Proofs.Rp
end

section
/- refute: values of literals under a trail, and the rows that hold them. -/
namespace Go.Proofs.Ytbpaadpocihahaa
open Go Go.RowKit Go.Proofs.Rg Go.Proofs.Mp Go.Proofs.Hp Go.Proofs.Sv
set_option linter.unusedVariables false
set_option linter.unusedSimpArgs false
theorem keysI : KeysBy Try.prog 3 (fun n : Int => Value.int .i64 n) := KeysBy.int Try.underlying3
/-- the value of a variable under a trail -/
def vof (tr : List Int) (v : Nat) : Int := if (v : Int) ∈ tr then 1 else if -(v : Int) ∈ tr then -1 else 0
/-- the value of a literal under a trail -/
def lv (tr : List Int) (x : Int) : Int := if x ∈ tr then 1 else if -x ∈ tr then -1 else 0
def rowC (p : Value × List Int) : Res := Hp.row 3 1 p.1 p.2.length (iv p.2)
theorem vof_cases (tr : List Int) (v : Nat) : vof tr v = 1 ∨ vof tr v = -1 ∨ vof tr v = 0 := by
  unfold vof; split
  · exact .inl rfl
  · split
    · exact .inr (.inl rfl)
    · exact .inr (.inr rfl)
theorem lv_pos {tr : List Int} {v : Nat} : lv tr (v : Int) = vof tr v := rfl
theorem lv_neg {V : Nat} {tr : List Int} (h : TrOk V tr) {v : Nat} : lv tr (-(v : Int)) = -vof tr v := by
  unfold lv vof
  rw [Int.neg_neg]
  by_cases h1 : (v : Int) ∈ tr
  · rw [if_pos h1, if_neg (h.not_both h1), if_pos h1]
  · rw [if_neg h1, if_neg h1]
    split <;> rfl
theorem lv_cases (tr : List Int) (x : Int) : lv tr x = 1 ∨ lv tr x = -1 ∨ lv tr x = 0 := by
  unfold lv; split
  · exact .inl rfl
  · split
    · exact .inr (.inl rfl)
    · exact .inr (.inr rfl)
theorem lv_one {tr : List Int} {x : Int} : lv tr x = 1 ↔ x ∈ tr := by
  unfold lv; split
  · rename_i h; simp [h]
  · rename_i h; split <;> simp [h]
theorem lv_mone {V : Nat} {tr : List Int} (h : TrOk V tr) {x : Int} : lv tr x = -1 ↔ -x ∈ tr := by
  unfold lv; split
  · rename_i h1; simp [h.not_both h1]
  · split
    · rename_i h2; simp [h2]
    · rename_i h2; simp [h2]
def vals (V : Nat) (tr : List Int) : List Value := (List.range (V + 1)).map fun v => Value.int .i8 (vof tr v)
theorem vals_get {V : Nat} {tr : List Int} {v : Nat} (h : v ≤ V) : (vals V tr)[v]? = some (.int .i8 (vof tr v)) := by
  unfold vals
  rw [List.getElem?_map, List.getElem?_range (by omega)]; rfl
theorem tr_len {V : Nat} {tr : List Int} (h : TrOk V tr) : tr.length ≤ V := by
  have := pigeon (n := V) h.2 fun x hx => by
    obtain ⟨y, hy, rfl⟩ := List.mem_map.1 hx
    have := h.1 y hy
    omega
  simpa using this
theorem vof_pos {tr : List Int} {v u : Nat} (hv : 1 ≤ v) : vof (tr ++ [(v : Int)]) u = if u = v then 1 else vof tr u := by
  unfold vof
  by_cases h : u = v
  · subst h; simp
  · rw [if_neg h]
    have h1 : (u : Int) ∈ tr ++ [(v : Int)] ↔ (u : Int) ∈ tr := by simp; omega
    have h2 : -(u : Int) ∈ tr ++ [(v : Int)] ↔ -(u : Int) ∈ tr := by simp; omega
    simp only [h1, h2]
theorem vof_neg {tr : List Int} {v u : Nat} (hv : 1 ≤ v) (hn : (v : Int) ∉ tr) : vof (tr ++ [-(v : Int)]) u = if u = v then -1 else vof tr u := by
  unfold vof
  by_cases h : u = v
  · subst h
    have h1 : (u : Int) ∉ tr ++ [-(u : Int)] := by simp [hn]; omega
    rw [if_neg h1, if_pos rfl]; simp
  · rw [if_neg h]
    have h1 : (u : Int) ∈ tr ++ [-(v : Int)] ↔ (u : Int) ∈ tr := by simp; omega
    have h2 : -(u : Int) ∈ tr ++ [-(v : Int)] ↔ -(u : Int) ∈ tr := by simp; omega
    simp only [h1, h2]
theorem vals_set {V v : Nat} {tr tr' : List Int} {z : Int} (h : ∀ u, vof tr' u = if u = v then z else vof tr u) : (vals V tr).set v (.int .i8 z) = vals V tr' := by
  apply List.ext_getElem?
  intro i
  unfold vals
  rw [List.getElem?_set, List.getElem?_map, List.getElem?_map]
  by_cases hi : i < V + 1
  · rw [List.getElem?_range hi]
    simp only [Option.map_some, h, List.length_map, List.length_range]
    by_cases e : v = i
    · subst e; simp [hi]
    · rw [if_neg e, if_neg (fun q => e q.symm)]
  · rw [List.getElem?_eq_none (l := List.range (V + 1)) (by simp; omega)]
    simp; omega
/-- the values while some are struck -/
def valz (V : Nat) (tr : List Int) (Z : List Nat) : List Value := (List.range (V + 1)).map fun v => Value.int .i8 (if v ∈ Z then 0 else vof tr v)
theorem valz_nil (V : Nat) (tr : List Int) : valz V tr [] = vals V tr := by simp [valz, vals]
theorem valz_len (V : Nat) (tr : List Int) (Z : List Nat) : (valz V tr Z).length = V + 1 := by simp [valz]
theorem valz_set {V : Nat} {tr : List Int} {Z : List Nat} {v : Nat} : (valz V tr Z).set v (.int .i8 0) = valz V tr (Z ++ [v]) := by
  apply List.ext_getElem?
  intro i
  unfold valz
  rw [List.getElem?_set, List.getElem?_map, List.getElem?_map]
  by_cases hi : i < V + 1
  · rw [List.getElem?_range hi]
    simp only [Option.map_some, List.length_map, List.length_range, List.mem_append, List.mem_singleton]
    by_cases e : v = i
    · subst e; simp [hi]
    · rw [if_neg e]
      simp only [show ¬ i = v from fun q => e q.symm, or_false]
  · rw [List.getElem?_eq_none (l := List.range (V + 1)) (by simp; omega)]
    simp; omega
theorem valz_all {V : Nat} {tr : List Int} (h : TrOk V tr) (t : Nat) : valz V tr ((tr.drop t).map Int.natAbs) = vals V (tr.take t) := by
  unfold valz vals
  apply List.map_congr_left
  intro v hv
  congr 1
  have key : ∀ x : Int, x ∈ tr → (x ∈ tr.take t ↔ x.natAbs ∉ (tr.drop t).map Int.natAbs) := by
    intro x hx
    have hnd := h.2
    rw [← List.take_append_drop t tr, List.map_append, List.nodup_append] at hnd
    constructor
    · intro h1 h2
      exact hnd.2.2 _ (List.mem_map_of_mem h1) _ h2 rfl
    · intro h1
      rw [← List.take_append_drop t tr, List.mem_append] at hx
      rcases hx with hx | hx
      · exact hx
      · exact absurd (List.mem_map_of_mem hx) h1
  unfold vof
  by_cases h1 : v ∈ (tr.drop t).map Int.natAbs
  · rw [if_pos h1]
    have a : (v : Int) ∉ tr.take t := fun e => (key _ (List.mem_of_mem_take e)).1 e (by simpa using h1)
    have b : -(v : Int) ∉ tr.take t := fun e => (key _ (List.mem_of_mem_take e)).1 e (by simpa using h1)
    rw [if_neg a, if_neg b]
  · rw [if_neg h1]
    have a : (v : Int) ∈ tr ↔ (v : Int) ∈ tr.take t := ⟨fun e => (key _ e).2 (by simpa using h1), List.mem_of_mem_take⟩
    have b : -(v : Int) ∈ tr ↔ -(v : Int) ∈ tr.take t := ⟨fun e => (key _ e).2 (by simpa using h1), List.mem_of_mem_take⟩
    simp only [a, b]
theorem meas_lt {i n : Nat} (h : i < n) : n - ((i : Int) + 1).toNat < n - (i : Int).toNat := by omega
theorem wt_len {cl : List (List Int)} {wt : Int → List Nat} (h : WtOk cl wt) (x : Int) : (wt x).length ≤ cl.length := by
  have h1 := pigeon (n := cl.length) (l := (wt x).map (· + 1)) ((h x).1.map _ (fun a b hab e => hab (by omega))) fun y hy => by
    obtain ⟨k, hk, rfl⟩ := List.mem_map.1 hy
    obtain ⟨c, hc, _⟩ := ((h x).2 k).1 hk
    have := (List.getElem?_eq_some_iff.1 hc).1
    omega
  simpa using h1
theorem wl_upd (L : List (Int × (Value × List Nat))) (x : Int) (v : Value) (l : List Nat) : wl (put L x (v, l)) = upd (wl L) x l := by
  funext j
  rw [wl_put]; rfl
theorem set_fst {CV : List (Value × List Int)} {k : Nat} {v : Value} {c c' : List Int} (h : CV[k]? = some (v, c)) : (CV.set k (v, c')).map (·.1) = CV.map (·.1) := by
  rw [List.map_set]
  apply List.ext_getElem?
  intro i
  rw [List.getElem?_set]
  by_cases e : k = i
  · subst e
    have hl := (List.getElem?_eq_some_iff.1 h).1
    have e := (List.getElem?_eq_some_iff.1 h).2
    simp [hl, e]
  · rw [if_neg e]
end Go.Proofs.Ytbpaadpocihahaa
end
