/- Contents of quadtree stores: marks, sweeping, copying, comparing (part r). Nothing of a program. -/
import Derived.Test.YtgeomalefpjfdaaZq
namespace Go.Proofs.Qs
def geti (t : List Int) (j : Int) : Int := t.getD j.toNat 0
def ren (t : List Int) (k : K4) : K4 := ⟨geti t k.a, geti t k.b, geti t k.c, geti t k.d⟩
def seti (t : List Int) (j v : Int) : List Int := t.set j.toNat v
theorem seti_length (t : List Int) (j v : Int) : (seti t j v).length = t.length := by simp [seti]
theorem geti_seti {t : List Int} {j k v : Int} (hj : 0 ≤ j) (hj2 : j < t.length) (hk : 0 ≤ k) : geti (seti t j v) k = if k = j then v else geti t k := by
  unfold geti seti
  rw [List.getD_eq_getElem?_getD, List.getD_eq_getElem?_getD, List.getElem?_set]
  by_cases h : k = j
  · subst h; rw [if_pos rfl, if_pos (by omega), if_pos rfl]; rfl
  · rw [if_neg (by omega), if_neg h]
def names0 (s : Int) (n : Nat) : List Int := (List.range n).map fun (i : Nat) => if (i : Int) < s then (i : Int) else 0
theorem names0_length (s : Int) (n : Nat) : (names0 s n).length = n := by simp [names0]
theorem geti_names0 {s : Int} {n : Nat} {j : Int} (hj : 0 ≤ j) (hn : j < n) : geti (names0 s n) j = if j < s then j else 0 := by
  unfold geti names0
  rw [List.getD_eq_getElem?_getD, List.getElem?_map, List.getElem?_range (by omega)]
  simp only [Option.map_some, Option.getD_some, Int.toNat_of_nonneg hj]
/-- what both sweeping and copying build: names of the marked numbers so far, and a content in which the names have the numbers' trees -/
structure Named (s : Int) (ns : List K4) (m : List Bool) (i : Nat) (t : List Int) (out : List K4) : Prop where
  len : (t.length : Int) = s + ns.length
  leaf : ∀ j, 0 ≤ j → j < s → geti t j = j
  good : GoodQ s out
  tree : ∀ j, 0 ≤ j → j < s + i → (j < s ∨ at' m j = true) → Kn s out (geti t j) ∧ tr s out (geti t j) = tr s ns j
theorem Named.start {s : Int} {ns ms : List K4} {m : List Bool} (h : GoodQ s ns) (h' : GoodQ s ms) : Named s ns m 0 (names0 s (s + ns.length).toNat) ms := by
  have hs := h.1
  refine ⟨by rw [names0_length]; omega, fun j h1 h2 => by rw [geti_names0 h1 (by omega), if_pos h2], h', fun j h1 h2 _ => ?_⟩
  rw [geti_names0 h1 (by omega), if_pos (by omega)]
  exact ⟨⟨h1, by omega⟩, by rw [tr_leaf (by omega), tr_leaf (by omega)]⟩
theorem Named.skip {s : Int} {ns out : List K4} {m : List Bool} {i : Nat} {t : List Int} (h : Named s ns m i t out) (_ : 0 ≤ s) (hm : at' m (s + i) = false) : Named s ns m (i + 1) t out := by
  refine ⟨h.len, h.leaf, h.good, fun j h1 h2 h3 => ?_⟩
  by_cases hj : j = s + i
  · subst hj
    rcases h3 with h3 | h3
    · omega
    · rw [hm] at h3; cases h3
  · exact h.tree j h1 (by omega) h3
section
variable {s : Int} {ns out : List K4} {m : List Bool} {i : Nat} {t : List Int} {k : K4}
/-- the new node's quadrants have the old ones' trees -/
theorem Named.kids (h : Named s ns m i t out) (hg : GoodQ s ns) (hm : ∀ j, k.has j → j < s ∨ at' m j = true) (hk : ns[i]? = some k) :
    (∀ j, k.has j → Kn s out (geti t j) ∧ tr s out (geti t j) = tr s ns j) ∧ Fits s out (ren t k) := by
  have hs := hg.1
  obtain ⟨ka, kb, kc, kd⟩ := good_kids hg hk
  have hT : ∀ j, k.has j → Kn s out (geti t j) ∧ tr s out (geti t j) = tr s ns j := fun j hj => by
    have : 0 ≤ j ∧ j < s + i := by
      rcases hj with rfl | rfl | rfl | rfl
      · exact ka
      · exact kb
      · exact kc
      · exact kd
    exact h.tree j this.1 this.2 (hm j hj)
  refine ⟨hT, ?_⟩
  have hi := (List.getElem?_eq_some_iff.1 hk).1
  obtain ⟨_, l0, l1, l2, l3, l4⟩ := good_lvl hg hk
  have hl : ∀ j, k.has j → j < s + i → 0 ≤ j → lvl s (levs s out) (geti t j) = lvl s (levs s ns) j := fun j hj hj2 hj0 => lvl_of_tr h.good hg (hT j hj).1 ⟨hj0, by omega⟩ (hT j hj).2
  have ea := hl k.a (.inl rfl) ka.2 ka.1
  have eb := hl k.b (.inr (.inl rfl)) kb.2 kb.1
  have ec := hl k.c (.inr (.inr (.inl rfl))) kc.2 kc.1
  have ed := hl k.d (.inr (.inr (.inr rfl))) kd.2 kd.1
  exact ⟨by show 0 ≤ lvl s _ (geti t k.a); omega, by show lvl s _ (geti t k.a) < 256; omega, by show lvl s _ (geti t k.b) = lvl s _ (geti t k.a); omega, by show lvl s _ (geti t k.c) = lvl s _ (geti t k.a); omega, by show lvl s _ (geti t k.d) = lvl s _ (geti t k.a); omega⟩
theorem Named.set (h : Named s ns m i t out) (hg : GoodQ s ns) (hk : ns[i]? = some k) {out' : List K4} {v : Int} (hgood : GoodQ s out') (hold : ∀ x, Kn s out x → Kn s out' x ∧ tr s out' x = tr s out x) (hv : Kn s out' v ∧ tr s out' v = tr s ns (s + i)) :
    Named s ns m (i + 1) (seti t (s + i) v) out' := by
  have hs := hg.1
  have hi := (List.getElem?_eq_some_iff.1 hk).1
  have hl := h.len
  refine ⟨by rw [seti_length]; exact hl, fun j h1 h2 => by rw [geti_seti (by omega) (by omega) h1, if_neg (by omega)]; exact h.leaf j h1 h2, hgood, fun j h1 h2 h3 => ?_⟩
  rw [geti_seti (by omega) (by omega) h1]
  by_cases hj : j = s + i
  · rw [if_pos hj, hj]; exact hv
  · rw [if_neg hj]
    obtain ⟨a1, a2⟩ := h.tree j h1 (by omega) h3
    obtain ⟨b1, b2⟩ := hold _ a1
    exact ⟨b1, b2.trans a2⟩
theorem Named.hit (h : Named s ns m i t out) (hg : GoodQ s ns) (hm : ∀ j, k.has j → j < s ∨ at' m j = true) (hk : ns[i]? = some k) {o : Nat} (ho : out.idxOf? (ren t k) = some o) :
    Named s ns m (i + 1) (seti t (s + i) (s + o)) out := by
  have hs := hg.1
  obtain ⟨hT, _⟩ := h.kids hg hm hk
  rw [List.idxOf?_eq_some_iff] at ho
  obtain ⟨ho1, ho2, _⟩ := ho
  have hgo : out[o]? = some (ren t k) := by rw [List.getElem?_eq_getElem ho1]; exact congrArg some (by simpa using ho2)
  refine h.set hg hk h.good (fun x hx => ⟨hx, rfl⟩) ⟨⟨by omega, by omega⟩, ?_⟩
  rw [tr_node h.good hgo, tr_node hg hk]
  show Tr.node (tr s out (geti t k.a)) (tr s out (geti t k.b)) (tr s out (geti t k.c)) (tr s out (geti t k.d)) = _
  rw [(hT k.a (.inl rfl)).2, (hT k.b (.inr (.inl rfl))).2, (hT k.c (.inr (.inr (.inl rfl)))).2, (hT k.d (.inr (.inr (.inr rfl)))).2]
theorem Named.miss (h : Named s ns m i t out) (hg : GoodQ s ns) (hm : ∀ j, k.has j → j < s ∨ at' m j = true) (hk : ns[i]? = some k) (ho : ren t k ∉ out) (hl : out.length < 100000) :
    Named s ns m (i + 1) (seti t (s + i) (s + out.length)) (out ++ [ren t k]) := by
  have hs := hg.1
  obtain ⟨hT, hF⟩ := h.kids hg hm hk
  have hgood := h.good.snoc hF ho hl
  have hgo : (out ++ [ren t k])[out.length]? = some (ren t k) := by simp
  refine h.set hg hk hgood (fun x hx => ⟨⟨hx.1, by rw [List.length_append]; have := hx.2; omega⟩, tr_app hx.2⟩) ⟨⟨by omega, by rw [List.length_append]; show _ < s + ((out.length + 1 : Nat) : Int); omega⟩, ?_⟩
  have hap : ∀ j, k.has j → tr s (out ++ [ren t k]) (geti t j) = tr s ns j := fun j hj => by rw [tr_app (hT j hj).1.2, (hT j hj).2]
  rw [tr_node hgood hgo, tr_node hg hk]
  show Tr.node (tr s _ (geti t k.a)) (tr s _ (geti t k.b)) (tr s _ (geti t k.c)) (tr s _ (geti t k.d)) = _
  rw [hap k.a (.inl rfl), hap k.b (.inr (.inl rfl)), hap k.c (.inr (.inr (.inl rfl))), hap k.d (.inr (.inr (.inr rfl)))]
end
/-! ### Sweeping -/
def swStep (s : Int) (m : List Bool) (i : Nat) (k : K4) (st : List Int × List K4) : List Int × List K4 :=
  if at' m (s + i) then (seti st.1 (s + i) (s + st.2.length), st.2 ++ [ren st.1 k]) else st
def sw (s : Int) (ns : List K4) (m : List Bool) : Nat → List Int × List K4
  | 0 => (names0 s (s + ns.length).toNat, [])
  | i + 1 => match ns[i]? with
    | some k => swStep s m i k (sw s ns m i)
    | none => sw s ns m i
theorem sw_succ {s : Int} {ns : List K4} {m : List Bool} {i : Nat} {k : K4} (hk : ns[i]? = some k) : sw s ns m (i + 1) = swStep s m i k (sw s ns m i) := by rw [sw, hk]
theorem sw_len (s : Int) (ns : List K4) (m : List Bool) : ∀ i, (sw s ns m i).2.length ≤ i
  | 0 => Nat.le_refl _
  | i + 1 => by
    have := sw_len s ns m i
    rw [sw]
    split
    · unfold swStep
      split
      · simp; omega
      · omega
    · omega
/-- sweeping keeps the trees, and makes nothing else -/
theorem sw_named {s : Int} {ns : List K4} {m : List Bool} (hg : GoodQ s ns) (hd : ∀ i k j, ns[i]? = some k → at' m (s + (i : Nat)) = true → k.has j → at' m j = true) :
    ∀ i, i ≤ ns.length → Named s ns m i (sw s ns m i).1 (sw s ns m i).2 ∧ ∀ o, o < (sw s ns m i).2.length → ∃ j, j < i ∧ at' m (s + (j : Nat)) = true ∧ geti (sw s ns m i).1 (s + (j : Nat)) = s + o
  | 0, _ => ⟨Named.start hg (GoodQ.nil hg.1 hg.2.1), fun o h => by simp [sw] at h⟩
  | i + 1, hi => by
    obtain ⟨h1, h2⟩ := sw_named hg hd i (by omega)
    have hs := hg.1
    obtain ⟨k, hk⟩ : ∃ k, ns[i]? = some k := ⟨_, List.getElem?_eq_getElem (by omega)⟩
    rw [sw_succ hk]
    obtain ⟨st, hst⟩ : ∃ st, st = sw s ns m i := ⟨_, rfl⟩
    have hlen := sw_len s ns m i
    rw [← hst] at h1 h2 hlen ⊢
    unfold swStep
    by_cases hm : at' m (s + i) = true
    · rw [if_pos hm]
      have hkm : ∀ j, k.has j → j < s ∨ at' m j = true := fun j hj => .inr (hd i k j hk hm hj)
      have hnot : ren st.1 k ∉ st.2 := fun hin => by
        obtain ⟨o, ho⟩ := List.getElem?_of_mem hin
        have hol := (List.getElem?_eq_some_iff.1 ho).1
        obtain ⟨j, hj1, hj2, hj3⟩ := h2 o hol
        obtain ⟨hT, _⟩ := h1.kids hg hkm hk
        have e1 := (h1.tree (s + j) (by omega) (by omega) (.inr hj2)).2
        rw [hj3, tr_node h1.good ho] at e1
        have e2 : Tr.node (tr s st.2 (geti st.1 k.a)) (tr s st.2 (geti st.1 k.b)) (tr s st.2 (geti st.1 k.c)) (tr s st.2 (geti st.1 k.d)) = tr s ns (s + j) := e1
        rw [(hT k.a (.inl rfl)).2, (hT k.b (.inr (.inl rfl))).2, (hT k.c (.inr (.inr (.inl rfl)))).2, (hT k.d (.inr (.inr (.inr rfl)))).2, ← tr_node hg hk] at e2
        have := tr_inj hg ns.length (x := s + i) (y := s + j) (by omega) ⟨by omega, by omega⟩ ⟨by omega, by omega⟩ e2
        omega
      have hn := h1.miss hg hkm hk hnot (by have := hg.2.2.1; omega)
      refine ⟨hn, fun o ho => ?_⟩
      have hl := h1.len
      simp only [List.length_append, List.length_cons, List.length_nil] at ho
      by_cases ho2 : o = st.2.length
      · exact ⟨i, by omega, hm, by rw [geti_seti (by omega) (by omega) (by omega), if_pos rfl, ho2]⟩
      · obtain ⟨j, hj1, hj2, hj3⟩ := h2 o (by omega)
        exact ⟨j, by omega, hj2, by rw [geti_seti (by omega) (by omega) (by omega), if_neg (by omega)]; exact hj3⟩
    · rw [if_neg hm]
      refine ⟨h1.skip (by omega) (by simpa using hm), fun o ho => ?_⟩
      obtain ⟨j, hj1, hj2, hj3⟩ := h2 o ho
      exact ⟨j, by omega, hj2, hj3⟩
theorem sw_names_len (s : Int) (ns : List K4) (m : List Bool) : ∀ i, (sw s ns m i).1.length = (s + ns.length).toNat
  | 0 => names0_length _ _
  | i + 1 => by
    have := sw_names_len s ns m i
    rw [sw]
    split
    · unfold swStep
      split
      · simp only [seti_length]; exact this
      · exact this
    · exact this
/-- sweeping a content all of whose nodes are marked changes nothing -/
theorem sw_all {s : Int} {ns : List K4} {m : List Bool} (hg : GoodQ s ns) (hm : ∀ o, o < ns.length → at' m (s + (o : Nat)) = true) : ∀ i, i ≤ ns.length → (sw s ns m i).2 = ns.take i ∧ ∀ j, 0 ≤ j → j < s + i → geti (sw s ns m i).1 j = j
  | 0, _ => ⟨rfl, fun j h1 h2 => by show geti (names0 _ _) j = j; rw [geti_names0 h1 (by omega), if_pos (by omega)]⟩
  | i + 1, hi => by
    obtain ⟨h1, h2⟩ := sw_all hg hm i (by omega)
    have hs := hg.1
    obtain ⟨k, hk⟩ : ∃ k, ns[i]? = some k := ⟨_, List.getElem?_eq_getElem (by omega)⟩
    obtain ⟨ka, kb, kc, kd⟩ := good_kids hg hk
    have hl := sw_names_len s ns m i
    rw [sw_succ hk]
    unfold swStep
    rw [if_pos (hm i (by omega))]
    have hren : ren (sw s ns m i).1 k = k := by
      unfold ren
      rw [h2 _ ka.1 ka.2, h2 _ kb.1 kb.2, h2 _ kc.1 kc.2, h2 _ kd.1 kd.2]
    refine ⟨by rw [hren, h1, List.take_add_one, hk]; rfl, fun j hj1 hj2 => ?_⟩
    rw [geti_seti (by omega) (by omega) hj1]
    by_cases hj : j = s + i
    · rw [if_pos hj, h1, List.length_take, Nat.min_eq_left (by omega), hj]
    · rw [if_neg hj]; exact h2 j hj1 (by omega)
/-- sweeping again: every node of the result is needed -/
theorem sw_again {s : Int} {ns : List K4} {roots : List Int} {m m2 : List Bool} (hg : GoodQ s ns) (hm : Marked s ns roots m)
    (hm2 : Marked s (sw s ns m ns.length).2 (roots.map (geti (sw s ns m ns.length).1)) m2) : ∀ o, o < (sw s ns m ns.length).2.length → at' m2 (s + (o : Nat)) = true := by
  obtain ⟨hN, hB⟩ := sw_named hg hm.down ns.length (Nat.le_refl _)
  have hs := hg.1
  obtain ⟨st, hst⟩ : ∃ st, st = sw s ns m ns.length := ⟨_, rfl⟩
  rw [← hst] at hN hB hm2 ⊢
  have key : ∀ n : Nat, ∀ j : Int, 0 ≤ j → j < s + ns.length → s + ns.length ≤ j + n → at' m j = true → at' m2 (geti st.1 j) = true := by
    intro n
    induction n with
    | zero => intro j h1 h2 h3; omega
    | succ n ih =>
      intro j h1 h2 h3 h4
      rcases hm.why j h1 h4 with h5 | ⟨i, k, hk, h5, h6⟩
      · exact (hm2.root _ (List.mem_map_of_mem h5)).2
      · have hi := (List.getElem?_eq_some_iff.1 hk).1
        obtain ⟨ka, kb, kc, kd⟩ := good_kids hg hk
        have hji : j < s + i := by
          rcases h6 with rfl | rfl | rfl | rfl
          · exact ka.2
          · exact kb.2
          · exact kc.2
          · exact kd.2
        have hup := ih (s + i) (by omega) (by omega) (by omega) h5
        obtain ⟨a1, a2⟩ := hN.tree (s + i) (by omega) (by omega) (.inr h5)
        rcases a1.cases with ⟨_, a3⟩ | ⟨o, k', a3, a4⟩
        · rw [tr_leaf a3, tr_node hg hk] at a2; cases a2
        · rw [a3] at a2 hup
          rw [tr_node hN.good a4, tr_node hg hk] at a2
          injection a2 with e1 e2 e3 e4
          have hol := (List.getElem?_eq_some_iff.1 a4).1
          obtain ⟨q1, q2, q3, q4⟩ := good_kids hN.good a4
          have hT : ∀ x, k.has x → Kn s st.2 (geti st.1 x) ∧ tr s st.2 (geti st.1 x) = tr s ns x := fun x hx => by
            have : 0 ≤ x ∧ x < s + i := by
              rcases hx with rfl | rfl | rfl | rfl
              · exact ka
              · exact kb
              · exact kc
              · exact kd
            exact hN.tree x this.1 (by omega) (.inr (hm.down i k x hk h5 hx))
          have hin : ∀ {x y : Int}, k.has x → Kn s st.2 y → tr s st.2 y = tr s ns x → geti st.1 x = y := fun {x y} hx hy he =>
            tr_inj hN.good st.2.length (by have := (hT x hx).1.2; omega) (hT x hx).1 hy ((hT x hx).2.trans he.symm)
          have hhas : k'.has (geti st.1 j) := by
            rcases h6 with rfl | rfl | rfl | rfl
            · exact .inl (hin (.inl rfl) ⟨q1.1, by omega⟩ e1)
            · exact .inr (.inl (hin (.inr (.inl rfl)) ⟨q2.1, by omega⟩ e2))
            · exact .inr (.inr (.inl (hin (.inr (.inr (.inl rfl))) ⟨q3.1, by omega⟩ e3)))
            · exact .inr (.inr (.inr (hin (.inr (.inr (.inr rfl))) ⟨q4.1, by omega⟩ e4)))
          exact hm2.down o k' _ a4 hup hhas
  intro o ho
  obtain ⟨j, hj1, hj2, hj3⟩ := hB o ho
  rw [← hj3]
  exact key (ns.length - j) (s + j) (by omega) (by omega) (by omega) hj2
/-! ### Copying -/
def cpStep (s : Int) (m : List Bool) (i : Nat) (k : K4) (st : List Int × List K4) : List Int × List K4 :=
  if at' m (s + i) then (match st.2.idxOf? (ren st.1 k) with
    | some o => (seti st.1 (s + i) (s + (o : Nat)), st.2)
    | none => (seti st.1 (s + i) (s + st.2.length), st.2 ++ [ren st.1 k])) else st
def cp (s : Int) (ns ms : List K4) (m : List Bool) : Nat → List Int × List K4
  | 0 => (names0 s (s + ns.length).toNat, ms)
  | i + 1 => match ns[i]? with
    | some k => cpStep s m i k (cp s ns ms m i)
    | none => cp s ns ms m i
theorem cp_succ {s : Int} {ns ms : List K4} {m : List Bool} {i : Nat} {k : K4} (hk : ns[i]? = some k) : cp s ns ms m (i + 1) = cpStep s m i k (cp s ns ms m i) := by rw [cp, hk]
theorem cp_len (s : Int) (ns ms : List K4) (m : List Bool) : ∀ i, ms.length ≤ (cp s ns ms m i).2.length ∧ (cp s ns ms m i).2.length ≤ ms.length + i ∧ (cp s ns ms m i).1.length = (s + ns.length).toNat ∧ (cp s ns ms m i).2.take ms.length = ms
  | 0 => ⟨Nat.le_refl _, Nat.le_refl _, names0_length _ _, by simp [cp]⟩
  | i + 1 => by
    obtain ⟨h1, h2, h3, h4⟩ := cp_len s ns ms m i
    rw [cp]
    split
    · unfold cpStep
      split
      · split
        · exact ⟨h1, Nat.le_trans h2 (by omega), by simp only [seti_length]; exact h3, h4⟩
        · refine ⟨by simp; omega, by simp; omega, by simp only [seti_length]; exact h3, ?_⟩
          rw [List.take_append_of_le_length h1]; exact h4
      · exact ⟨h1, by omega, h3, h4⟩
    · exact ⟨h1, by omega, h3, h4⟩
theorem cp_named {s : Int} {ns ms : List K4} {m : List Bool} (hg : GoodQ s ns) (hg' : GoodQ s ms) (hlen : ms.length + ns.length ≤ 100000) (hd : ∀ i k j, ns[i]? = some k → at' m (s + (i : Nat)) = true → k.has j → at' m j = true) :
    ∀ i, i ≤ ns.length → Named s ns m i (cp s ns ms m i).1 (cp s ns ms m i).2
  | 0, _ => Named.start hg hg'
  | i + 1, hi => by
    have h1 := cp_named hg hg' hlen hd i (by omega)
    obtain ⟨k, hk⟩ : ∃ k, ns[i]? = some k := ⟨_, List.getElem?_eq_getElem (by omega)⟩
    have hl := cp_len s ns ms m i
    rw [cp_succ hk]
    unfold cpStep
    by_cases hm : at' m (s + i) = true
    · rw [if_pos hm]
      have hkm : ∀ j, k.has j → j < s ∨ at' m j = true := fun j hj => .inr (hd i k j hk hm hj)
      cases ho : (cp s ns ms m i).2.idxOf? (ren (cp s ns ms m i).1 k) with
      | some o => exact h1.hit hg hkm hk ho
      | none => exact h1.miss hg hkm hk (by simpa using ho) (by omega)
    · rw [if_neg hm]
      exact h1.skip (by have := hg.1; omega) (by simpa using hm)
/-- copying what is there already: nothing is added, and the names are those that have the trees -/
theorem cp_there {s : Int} {ns ms : List K4} {m : List Bool} (hg : GoodQ s ns) (hg' : GoodQ s ms) (hlen : ms.length + ns.length ≤ 100000) (hd : ∀ i k j, ns[i]? = some k → at' m (s + (i : Nat)) = true → k.has j → at' m j = true)
    (hth : ∀ j, 0 ≤ j → j < s + ns.length → at' m j = true → ∃ y, Kn s ms y ∧ tr s ms y = tr s ns j) : ∀ i, i ≤ ns.length → (cp s ns ms m i).2 = ms
  | 0, _ => rfl
  | i + 1, hi => by
    have h1 := cp_there hg hg' hlen hd hth i (by omega)
    have hN := cp_named hg hg' hlen hd i (by omega)
    have hs := hg.1
    obtain ⟨k, hk⟩ : ∃ k, ns[i]? = some k := ⟨_, List.getElem?_eq_getElem (by omega)⟩
    rw [cp_succ hk]
    unfold cpStep
    rw [h1] at hN ⊢
    by_cases hm : at' m (s + i) = true
    · rw [if_pos hm]
      have hkm : ∀ j, k.has j → j < s ∨ at' m j = true := fun j hj => .inr (hd i k j hk hm hj)
      obtain ⟨hT, _⟩ := hN.kids hg hkm hk
      cases ho : ms.idxOf? (ren (cp s ns ms m i).1 k) with
      | some o => rfl
      | none =>
        exfalso
        have hnot : ren (cp s ns ms m i).1 k ∉ ms := by simpa using ho
        obtain ⟨y, ky, hy⟩ := hth (s + i) (by omega) (by omega) hm
        rw [tr_node hg hk] at hy
        rcases ky.cases with ⟨_, h3⟩ | ⟨o, k', rfl, h4⟩
        · rw [tr_leaf h3] at hy; cases hy
        · rw [tr_node hg' h4] at hy
          injection hy with e1 e2 e3 e4
          have hol := (List.getElem?_eq_some_iff.1 h4).1
          obtain ⟨q1, q2, q3, q4⟩ := good_kids hg' h4
          have hin : ∀ {x z : Int}, k.has x → Kn s ms z → tr s ms z = tr s ns x → geti (cp s ns ms m i).1 x = z := fun {x z} hx hz he =>
            tr_inj hg' ms.length (by have := (hT x hx).1.2; omega) (hT x hx).1 hz ((hT x hx).2.trans he.symm)
          apply hnot
          have : ren (cp s ns ms m i).1 k = k' := by
            unfold ren
            rw [hin (.inl rfl) ⟨q1.1, by omega⟩ e1, hin (.inr (.inl rfl)) ⟨q2.1, by omega⟩ e2, hin (.inr (.inr (.inl rfl))) ⟨q3.1, by omega⟩ e3, hin (.inr (.inr (.inr rfl))) ⟨q4.1, by omega⟩ e4]
          rw [this]
          exact List.mem_of_getElem? h4
    · rw [if_neg hm]; exact h1
end Go.Proofs.Qs
