/- Contents of quadtree stores: marks, sweeping, copying, comparing (part s). Nothing of a program. -/
import Derived.Test.YtgeomalefpjfdaaZr
namespace Go.Proofs.Qs
/-- the marked numbers, ascending, below n -/
def nl (m : List Bool) (n : Nat) : List Int := ((List.range n).filter fun (i : Nat) => at' m i).map fun (i : Nat) => (i : Int)
theorem nl_succ (m : List Bool) (n : Nat) : nl m (n + 1) = if at' m n then nl m n ++ [(n : Int)] else nl m n := by
  unfold nl
  rw [List.range_succ, List.filter_append, List.map_append]
  by_cases h : at' m n = true <;> simp [h]
theorem nl_length (m : List Bool) (n : Nat) : (nl m n).length ≤ n := by
  unfold nl
  rw [List.length_map]
  exact Nat.le_trans (List.length_filter_le _ _) (by simp)
theorem nl_mem {m : List Bool} {n : Nat} {j : Int} (h : j ∈ nl m n) : 0 ≤ j ∧ j < n ∧ at' m j = true := by
  unfold nl at h
  rw [List.mem_map] at h
  obtain ⟨i, hi, rfl⟩ := h
  rw [List.mem_filter, List.mem_range] at hi
  exact ⟨by omega, by omega, hi.2⟩
/-! ### The reference's sweep and copy go over the marked numbers -/
def rsStep (s : Int) (ns : List K4) (st : List Int × List K4) (id : Int) : List Int × List K4 :=
  if id < s then (seti st.1 id id, st.2) else match ns[(id - s).toNat]? with
    | some k => (seti (seti st.1 id id) id (s + st.2.length), st.2 ++ [ren (seti st.1 id id) k])
    | none => (seti st.1 id id, st.2)
def rs (s : Int) (ns : List K4) (l : List Int) : List Int × List K4 := l.foldl (rsStep s ns) (List.replicate (s + ns.length).toNat 0, [])
theorem rs_snoc (s : Int) (ns : List K4) (l : List Int) (id : Int) : rs s ns (l ++ [id]) = rsStep s ns (rs s ns l) id := by simp [rs]
def rcStep (s : Int) (ns : List K4) (st : List Int × List K4) (id : Int) : List Int × List K4 :=
  if id < s then (seti st.1 id id, st.2) else match ns[(id - s).toNat]? with
    | some k => (match st.2.idxOf? (ren (seti st.1 id id) k) with
      | some o => (seti (seti st.1 id id) id (s + (o : Nat)), st.2)
      | none => (seti (seti st.1 id id) id (s + st.2.length), st.2 ++ [ren (seti st.1 id id) k]))
    | none => (seti st.1 id id, st.2)
def rc (s : Int) (ns ms : List K4) (l : List Int) : List Int × List K4 := l.foldl (rcStep s ns) (List.replicate (s + ns.length).toNat 0, ms)
theorem rc_snoc (s : Int) (ns ms : List K4) (l : List Int) (id : Int) : rc s ns ms (l ++ [id]) = rcStep s ns (rc s ns ms l) id := by simp [rc]
theorem rs_len (s : Int) (ns : List K4) (l : List Int) : (rs s ns l).1.length = (s + ns.length).toNat ∧ (rs s ns l).2.length ≤ l.length := by
  have : ∀ (l : List Int) (st : List Int × List K4), (l.foldl (rsStep s ns) st).1.length = st.1.length ∧ (l.foldl (rsStep s ns) st).2.length ≤ st.2.length + l.length := by
    intro l
    induction l with
    | nil => intro st; exact ⟨rfl, Nat.le_refl _⟩
    | cons x l ih =>
      intro st
      obtain ⟨h1, h2⟩ := ih (rsStep s ns st x)
      have h3 : (rsStep s ns st x).1.length = st.1.length ∧ (rsStep s ns st x).2.length ≤ st.2.length + 1 := by
        unfold rsStep
        split
        · exact ⟨seti_length _ _ _, Nat.le_succ _⟩
        · split
          · exact ⟨by simp only [seti_length], by simp⟩
          · exact ⟨seti_length _ _ _, Nat.le_succ _⟩
      rw [List.foldl_cons, List.length_cons]
      exact ⟨h1.trans h3.1, by omega⟩
  obtain ⟨h1, h2⟩ := this l (List.replicate (s + ns.length).toNat 0, [])
  exact ⟨h1.trans (List.length_replicate), by unfold rs; simpa using h2⟩
theorem rc_len (s : Int) (ns ms : List K4) (l : List Int) : (rc s ns ms l).1.length = (s + ns.length).toNat ∧ (rc s ns ms l).2.length ≤ ms.length + l.length := by
  have : ∀ (l : List Int) (st : List Int × List K4), (l.foldl (rcStep s ns) st).1.length = st.1.length ∧ (l.foldl (rcStep s ns) st).2.length ≤ st.2.length + l.length := by
    intro l
    induction l with
    | nil => intro st; exact ⟨rfl, Nat.le_refl _⟩
    | cons x l ih =>
      intro st
      obtain ⟨h1, h2⟩ := ih (rcStep s ns st x)
      have h3 : (rcStep s ns st x).1.length = st.1.length ∧ (rcStep s ns st x).2.length ≤ st.2.length + 1 := by
        unfold rcStep
        split
        · exact ⟨seti_length _ _ _, Nat.le_succ _⟩
        · split
          · split
            · exact ⟨by simp only [seti_length], Nat.le_succ _⟩
            · exact ⟨by simp only [seti_length], by simp⟩
          · exact ⟨seti_length _ _ _, Nat.le_succ _⟩
      rw [List.foldl_cons, List.length_cons]
      exact ⟨h1.trans h3.1, by omega⟩
  obtain ⟨h1, h2⟩ := this l (List.replicate (s + ns.length).toNat 0, ms)
  exact ⟨h1.trans (List.length_replicate), h2⟩
/-- the leaves: both start alike -/
theorem leaves_eq {s : Int} {n : Nat} {m : List Bool} {ns : List K4} (hs : 0 ≤ s) (f : (List Int × List K4) → Int → (List Int × List K4)) (hf : ∀ st id, id < s → f st id = (seti st.1 id id, st.2)) (ms : List K4) (hn : (n : Int) = s + ns.length) :
    ∀ i : Nat, (i : Int) ≤ s → ((nl m i).foldl f (List.replicate n 0, ms)).2 = ms ∧ ((nl m i).foldl f (List.replicate n 0, ms)).1.length = n ∧ ∀ j : Int, 0 ≤ j → j < i → at' m j = true → geti ((nl m i).foldl f (List.replicate n 0, ms)).1 j = j
  | 0, _ => ⟨rfl, List.length_replicate, fun j h1 h2 => by omega⟩
  | i + 1, hi => by
    obtain ⟨h1, h2, h3⟩ := leaves_eq hs f hf ms hn i (by omega)
    rw [nl_succ]
    by_cases hm : at' m i = true
    · rw [if_pos hm, List.foldl_append, List.foldl_cons, List.foldl_nil, hf _ _ (by omega)]
      refine ⟨h1, by rw [seti_length]; exact h2, fun j hj1 hj2 hj3 => ?_⟩
      rw [geti_seti (by omega) (by omega) hj1]
      by_cases hj : j = i
      · rw [if_pos hj, hj]
      · rw [if_neg hj]; exact h3 j hj1 (by omega) hj3
    · rw [if_neg hm]
      refine ⟨h1, h2, fun j hj1 hj2 hj3 => ?_⟩
      by_cases hj : j = i
      · rw [hj] at hj3; exact absurd hj3 hm
      · exact h3 j hj1 (by omega) hj3
theorem ren_eq {t t' : List Int} {k : K4} (h : ∀ j, k.has j → geti t j = geti t' j) : ren t k = ren t' k := by
  unfold ren
  rw [h k.a (.inl rfl), h k.b (.inr (.inl rfl)), h k.c (.inr (.inr (.inl rfl))), h k.d (.inr (.inr (.inr rfl)))]
theorem has_lt {s : Int} {ns : List K4} (hg : GoodQ s ns) {i : Nat} {k : K4} (hk : ns[i]? = some k) {j : Int} (hj : k.has j) : 0 ≤ j ∧ j < s + i := by
  obtain ⟨ka, kb, kc, kd⟩ := good_kids hg hk
  rcases hj with rfl | rfl | rfl | rfl
  · exact ka
  · exact kb
  · exact kc
  · exact kd
theorem rs_sw {s : Int} {ns : List K4} {m : List Bool} (hg : GoodQ s ns) (hd : ∀ i k j, ns[i]? = some k → at' m (s + (i : Nat)) = true → k.has j → at' m j = true) :
    ∀ i, i ≤ ns.length → (rs s ns (nl m (s.toNat + i))).2 = (sw s ns m i).2 ∧ ∀ j, 0 ≤ j → j < s + i → at' m j = true → geti (rs s ns (nl m (s.toNat + i))).1 j = geti (sw s ns m i).1 j
  | 0, _ => by
    have hs := hg.1
    obtain ⟨h1, _, h3⟩ := leaves_eq (s := s) (m := m) (n := (s + ns.length).toNat) (ns := ns) (by omega) (rsStep s ns) (fun st id h => by unfold rsStep; rw [if_pos h]) [] (by omega) s.toNat (by omega)
    refine ⟨h1, fun j hj1 hj2 hj3 => (h3 j hj1 (by omega) hj3).trans ?_⟩
    show j = geti (names0 _ _) j
    rw [geti_names0 hj1 (by omega), if_pos (by omega)]
  | i + 1, hi => by
    have hs := hg.1
    obtain ⟨h1, h2⟩ := rs_sw hg hd i (by omega)
    obtain ⟨k, hk⟩ : ∃ k, ns[i]? = some k := ⟨_, List.getElem?_eq_getElem (by omega)⟩
    have hl := (rs_len s ns (nl m (s.toNat + i))).1
    have hl2 := sw_names_len s ns m i
    rw [sw_succ hk, ← Nat.add_assoc, nl_succ]
    have e : ((s.toNat + i : Nat) : Int) = s + i := by omega
    unfold swStep
    by_cases hm : at' m (s + i) = true
    · rw [e, if_pos hm, if_pos hm, rs_snoc]
      unfold rsStep
      rw [if_neg (by omega), show (s + (i : Int) - s).toNat = i by omega, hk]
      simp only
      have hr : ren (seti (rs s ns (nl m (s.toNat + i))).1 (s + i) (s + i)) k = ren (sw s ns m i).1 k := ren_eq fun j hj => by
        obtain ⟨a, b⟩ := has_lt hg hk hj
        rw [geti_seti (by omega) (by omega) a, if_neg (by omega)]
        exact h2 j a b (hd i k j hk hm hj)
      rw [hr, h1]
      refine ⟨rfl, fun j hj1 hj2 hj3 => ?_⟩
      rw [geti_seti (by omega) (by rw [seti_length]; omega) hj1, geti_seti (by omega) (by omega) hj1, geti_seti (by omega) (by omega) hj1]
      by_cases hj : j = s + i
      · rw [if_pos hj, if_pos hj]
      · rw [if_neg hj, if_neg hj, if_neg hj]
        exact h2 j hj1 (by omega) hj3
    · rw [e, if_neg hm, if_neg hm]
      refine ⟨h1, fun j hj1 hj2 hj3 => ?_⟩
      by_cases hj : j = s + i
      · rw [hj] at hj3; exact absurd hj3 hm
      · exact h2 j hj1 (by omega) hj3
theorem rc_cp {s : Int} {ns ms : List K4} {m : List Bool} (hg : GoodQ s ns) (hd : ∀ i k j, ns[i]? = some k → at' m (s + (i : Nat)) = true → k.has j → at' m j = true) :
    ∀ i, i ≤ ns.length → (rc s ns ms (nl m (s.toNat + i))).2 = (cp s ns ms m i).2 ∧ ∀ j, 0 ≤ j → j < s + i → at' m j = true → geti (rc s ns ms (nl m (s.toNat + i))).1 j = geti (cp s ns ms m i).1 j
  | 0, _ => by
    have hs := hg.1
    obtain ⟨h1, _, h3⟩ := leaves_eq (s := s) (m := m) (n := (s + ns.length).toNat) (ns := ns) (by omega) (rcStep s ns) (fun st id h => by unfold rcStep; rw [if_pos h]) ms (by omega) s.toNat (by omega)
    refine ⟨h1, fun j hj1 hj2 hj3 => (h3 j hj1 (by omega) hj3).trans ?_⟩
    show j = geti (names0 _ _) j
    rw [geti_names0 hj1 (by omega), if_pos (by omega)]
  | i + 1, hi => by
    have hs := hg.1
    obtain ⟨h1, h2⟩ := rc_cp hg hd i (by omega)
    obtain ⟨k, hk⟩ : ∃ k, ns[i]? = some k := ⟨_, List.getElem?_eq_getElem (by omega)⟩
    have hl := (rc_len s ns ms (nl m (s.toNat + i))).1
    have hl2 := (cp_len s ns ms m i).2.2.1
    rw [cp_succ hk, ← Nat.add_assoc, nl_succ]
    have e : ((s.toNat + i : Nat) : Int) = s + i := by omega
    unfold cpStep
    by_cases hm : at' m (s + i) = true
    · rw [e, if_pos hm, if_pos hm, rc_snoc]
      unfold rcStep
      rw [if_neg (by omega), show (s + (i : Int) - s).toNat = i by omega, hk]
      simp only
      have hr : ren (seti (rc s ns ms (nl m (s.toNat + i))).1 (s + i) (s + i)) k = ren (cp s ns ms m i).1 k := ren_eq fun j hj => by
        obtain ⟨a, b⟩ := has_lt hg hk hj
        rw [geti_seti (by omega) (by omega) a, if_neg (by omega)]
        exact h2 j a b (hd i k j hk hm hj)
      rw [hr, h1]
      have key : ∀ v : Int, ∀ j, 0 ≤ j → j < s + (i + 1 : Nat) → at' m j = true → geti (seti (seti (rc s ns ms (nl m (s.toNat + i))).1 (s + i) (s + i)) (s + i) v) j = geti (seti (cp s ns ms m i).1 (s + i) v) j := fun v j hj1 hj2 hj3 => by
        rw [geti_seti (by omega) (by rw [seti_length]; omega) hj1, geti_seti (by omega) (by omega) hj1, geti_seti (by omega) (by omega) hj1]
        by_cases hj : j = s + i
        · rw [if_pos hj, if_pos hj]
        · rw [if_neg hj, if_neg hj, if_neg hj]
          exact h2 j hj1 (by omega) hj3
      cases (cp s ns ms m i).2.idxOf? (ren (cp s ns ms m i).1 k) with
      | some o => exact ⟨rfl, key _⟩
      | none => exact ⟨rfl, key _⟩
    · rw [e, if_neg hm, if_neg hm]
      refine ⟨h1, fun j hj1 hj2 hj3 => ?_⟩
      by_cases hj : j = s + i
      · rw [hj] at hj3; exact absurd hj3 hm
      · exact h2 j hj1 (by omega) hj3
/-! ### Comparing -/
def Alk (s : Int) (ns : List K4) (x : Int) (t : Int) (ms : List K4) (y : Int) : Prop := Kn s ns x ∧ Kn t ms y ∧ tr s ns x = tr t ms y
instance (s : Int) (ns : List K4) (x t : Int) (ms : List K4) (y : Int) : Decidable (Alk s ns x t ms y) := by unfold Alk; exact inferInstance
/-- the number in one content that has the tree of a number of another; -1 if there is none -/
def raNode (t : Int) (ms : List K4) (k : K4) : Int := if 0 ≤ k.a ∧ 0 ≤ k.b ∧ 0 ≤ k.c ∧ 0 ≤ k.d then (match ms.idxOf? k with
    | some o => t + (o : Nat)
    | none => -1) else -1
def raAt (s : Int) (ns : List K4) (t : Int) (ms : List K4) (l : List Int) (id : Int) : Int :=
  if id < s then (if id < t then id else -1) else match ns[(id - s).toNat]? with
    | some k => raNode t ms (ren l k)
    | none => -1
def ra (s : Int) (ns : List K4) (t : Int) (ms : List K4) : Nat → List Int
  | 0 => List.replicate (s + ns.length).toNat 0
  | n + 1 => seti (ra s ns t ms n) n (raAt s ns t ms (ra s ns t ms n) n)
theorem ra_len (s : Int) (ns : List K4) (t : Int) (ms : List K4) : ∀ n, (ra s ns t ms n).length = (s + ns.length).toNat
  | 0 => List.length_replicate
  | n + 1 => by rw [ra, seti_length, ra_len s ns t ms n]
theorem ra_ok {s t : Int} {ns ms : List K4} (hg : GoodQ s ns) (hg' : GoodQ t ms) : ∀ n : Nat, (n : Int) ≤ s + ns.length → ∀ j : Int, 0 ≤ j → j < n →
    (0 ≤ geti (ra s ns t ms n) j → Kn t ms (geti (ra s ns t ms n) j) ∧ tr t ms (geti (ra s ns t ms n) j) = tr s ns j) ∧ (geti (ra s ns t ms n) j < 0 → ∀ y, Kn t ms y → tr t ms y ≠ tr s ns j)
  | 0, _, j, h1, h2 => by omega
  | n + 1, hn, j, h1, h2 => by
    have hs := hg.1
    have ht := hg'.1
    have ih := ra_ok hg hg' n (by omega)
    have hl := ra_len s ns t ms n
    rw [ra]
    generalize ra s ns t ms n = r at *
    rw [geti_seti (by omega) (by omega) h1]
    by_cases hj : j = n
    · rw [if_pos hj]
      subst hj
      unfold raAt
      by_cases hls : (n : Int) < s
      · rw [if_pos hls]
        by_cases hlt : (n : Int) < t
        · rw [if_pos hlt]
          exact ⟨fun _ => ⟨⟨by omega, by omega⟩, by rw [tr_leaf hlt, tr_leaf hls]⟩, fun h => by omega⟩
        · rw [if_neg hlt]
          refine ⟨fun h => by omega, fun _ y ky hy => ?_⟩
          rw [tr_leaf hls] at hy
          rcases ky.cases with ⟨_, h3⟩ | ⟨o, k, rfl, h4⟩
          · rw [tr_leaf h3] at hy; injection hy with hy; omega
          · rw [tr_node hg' h4] at hy; cases hy
      · rw [if_neg hls]
        obtain ⟨i, hi⟩ : ∃ i : Nat, (n : Int) = s + i := ⟨((n : Int) - s).toNat, by omega⟩
        obtain ⟨k, hk⟩ : ∃ k, ns[i]? = some k := ⟨_, List.getElem?_eq_getElem (by omega)⟩
        rw [hi, show (s + (i : Int) - s).toNat = i by omega, hk]
        simp only
        have hT : ∀ x, k.has x → (0 ≤ geti r x → Kn t ms (geti r x) ∧ tr t ms (geti r x) = tr s ns x) ∧ (geti r x < 0 → ∀ y, Kn t ms y → tr t ms y ≠ tr s ns x) := fun x hx => by
          obtain ⟨a, b⟩ := has_lt hg hk hx
          exact ih x a (by omega)
        have hno : ∀ x, k.has x → geti r x < 0 → ∀ y, Kn t ms y → tr t ms y ≠ tr s ns (s + i) := fun x hx hneg y ky hy => by
          rw [tr_node hg hk] at hy
          rcases ky.cases with ⟨_, h3⟩ | ⟨o, k', rfl, h4⟩
          · rw [tr_leaf h3] at hy; cases hy
          · rw [tr_node hg' h4] at hy
            injection hy with e1 e2 e3 e4
            have hol := (List.getElem?_eq_some_iff.1 h4).1
            obtain ⟨q1, q2, q3, q4⟩ := good_kids hg' h4
            rcases hx with rfl | rfl | rfl | rfl
            · exact (hT _ (.inl rfl)).2 hneg _ ⟨q1.1, by omega⟩ e1
            · exact (hT _ (.inr (.inl rfl))).2 hneg _ ⟨q2.1, by omega⟩ e2
            · exact (hT _ (.inr (.inr (.inl rfl)))).2 hneg _ ⟨q3.1, by omega⟩ e3
            · exact (hT _ (.inr (.inr (.inr rfl)))).2 hneg _ ⟨q4.1, by omega⟩ e4
        unfold raNode
        by_cases hall : 0 ≤ (ren r k).a ∧ 0 ≤ (ren r k).b ∧ 0 ≤ (ren r k).c ∧ 0 ≤ (ren r k).d
        · rw [if_pos hall]
          obtain ⟨ga, gb, gc, gd⟩ := hall
          have ta := (hT k.a (.inl rfl)).1 ga
          have tb := (hT k.b (.inr (.inl rfl))).1 gb
          have tc := (hT k.c (.inr (.inr (.inl rfl)))).1 gc
          have td := (hT k.d (.inr (.inr (.inr rfl)))).1 gd
          cases ho : ms.idxOf? (ren r k) with
          | some o =>
            simp only
            rw [List.idxOf?_eq_some_iff] at ho
            obtain ⟨ho1, ho2, _⟩ := ho
            have hgo : ms[o]? = some (ren r k) := by rw [List.getElem?_eq_getElem ho1]; exact congrArg some (by simpa using ho2)
            refine ⟨fun _ => ⟨⟨by omega, by omega⟩, ?_⟩, fun h => by omega⟩
            rw [tr_node hg' hgo, tr_node hg hk]
            show Tr.node (tr t ms (geti r k.a)) (tr t ms (geti r k.b)) (tr t ms (geti r k.c)) (tr t ms (geti r k.d)) = _
            rw [ta.2, tb.2, tc.2, td.2]
          | none =>
            simp only
            refine ⟨fun h => by omega, fun _ y ky hy => ?_⟩
            rw [tr_node hg hk] at hy
            rcases ky.cases with ⟨_, h3⟩ | ⟨o, k', rfl, h4⟩
            · rw [tr_leaf h3] at hy; cases hy
            · rw [tr_node hg' h4] at hy
              injection hy with e1 e2 e3 e4
              have hol := (List.getElem?_eq_some_iff.1 h4).1
              obtain ⟨q1, q2, q3, q4⟩ := good_kids hg' h4
              have hin : ∀ {x z : Int}, Kn t ms x → Kn t ms z → tr t ms x = tr t ms z → x = z := fun {x z} hx hz he => tr_inj hg' ms.length (by have := hx.2; omega) hx hz he
              have hnot : ren r k ∉ ms := by simpa using ho
              apply hnot
              have : ren r k = k' := by
                unfold ren
                rw [hin ta.1 ⟨q1.1, by omega⟩ (ta.2.trans e1.symm), hin tb.1 ⟨q2.1, by omega⟩ (tb.2.trans e2.symm), hin tc.1 ⟨q3.1, by omega⟩ (tc.2.trans e3.symm), hin td.1 ⟨q4.1, by omega⟩ (td.2.trans e4.symm)]
              rw [this]
              exact List.mem_of_getElem? h4
        · rw [if_neg hall]
          refine ⟨fun h => by omega, fun _ => ?_⟩
          have : ∃ x, k.has x ∧ geti r x < 0 := by
            by_cases ga : 0 ≤ geti r k.a
            · by_cases gb : 0 ≤ geti r k.b
              · by_cases gc : 0 ≤ geti r k.c
                · exact ⟨k.d, .inr (.inr (.inr rfl)), by have : ¬ 0 ≤ geti r k.d := fun gd => hall ⟨ga, gb, gc, gd⟩; omega⟩
                · exact ⟨k.c, .inr (.inr (.inl rfl)), by omega⟩
              · exact ⟨k.b, .inr (.inl rfl), by omega⟩
            · exact ⟨k.a, .inl rfl, by omega⟩
          obtain ⟨x, hx, hneg⟩ := this
          exact hno x hx hneg
    · rw [if_neg hj]
      exact ih j h1 (by omega)
/-- the reference's answer -/
theorem ra_alk {s t : Int} {ns ms : List K4} (hg : GoodQ s ns) (hg' : GoodQ t ms) {x y : Int} (kx : Kn s ns x) (ky : Kn t ms y) : (geti (ra s ns t ms (s + ns.length).toNat) x = y) ↔ Alk s ns x t ms y := by
  have hs := hg.1
  obtain ⟨h1, h2⟩ := ra_ok hg hg' (s + ns.length).toNat (by omega) x kx.1 (by have := kx.2; omega)
  constructor
  · intro h
    rw [h] at h1
    exact ⟨kx, ky, (h1 ky.1).2.symm⟩
  · rintro ⟨_, _, he⟩
    by_cases h0 : 0 ≤ geti (ra s ns t ms (s + ns.length).toNat) x
    · obtain ⟨a, b⟩ := h1 h0
      exact tr_inj hg' ms.length (by have := a.2; omega) a ky (b.trans he)
    · exact absurd he.symm (h2 (by omega) y ky)
end Go.Proofs.Qs
