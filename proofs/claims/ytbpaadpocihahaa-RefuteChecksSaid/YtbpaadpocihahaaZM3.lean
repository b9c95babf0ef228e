/- Own texts of this claim, part 4: no condition. -/
set_option linter.unusedVariables false
set_option linter.unusedSimpArgs false
section
/- Two watched literals: what one visit of a list of clauses does, and what stays true. Nothing of a program. -/
namespace Go.Proofs.Sv
set_option linter.unusedVariables false
set_option linter.unusedSimpArgs false
/-- two places of a list exchanged -/
def swp (c : List Int) (i j : Nat) : List Int := (c.set i (c.getD j 0)).set j (c.getD i 0)
theorem swp_perm {c : List Int} {i j : Nat} (hi : i < c.length) (hj : j < c.length) : (swp c i j).Perm c := by
  have h := Array.swap_perm (xs := c.toArray) (i := i) (j := j) (by simpa using hi) (by simpa using hj)
  have h2 := h.toList
  rw [Array.toList_swap] at h2
  simpa [swp, hi, hj] using h2
theorem swp_length (c : List Int) (i j : Nat) : (swp c i j).length = c.length := by simp [swp]
theorem swp_get {c : List Int} {i j k : Nat} (hi : i < c.length) (hj : j < c.length) : (swp c i j)[k]? = if k = j then c[i]? else if k = i then c[j]? else c[k]? := by
  unfold swp
  rw [List.getElem?_set, List.getElem?_set]
  simp only [List.length_set]
  by_cases h1 : j = k
  · subst h1; simp [hj, hi]
  · by_cases h2 : i = k
    · subst h2
      have : ¬ i = j := fun e => h1 e.symm
      simp [h1, this, hi, hj]
    · have a : ¬ k = j := fun e => h1 e.symm
      have b : ¬ k = i := fun e => h2 e.symm
      simp [h1, h2, a, b]
structure St where
  cl : List (List Int)
  wt : Int → List Nat
  tr : List Int
  kp : List Nat
def upd (f : Int → List Nat) (y : Int) (l : List Nat) : Int → List Nat := fun z => if z = y then l else f z
/-- the clause k of the list of x, x laid second -/
def second (x : Int) (c : List Int) : List Int := if c.getD 0 0 = x then swp c 0 1 else c
/-- the first place behind the second whose literal is not false -/
def other (tr : List Int) (c : List Int) : Option Nat := (c.drop 2).findIdx? fun y => !decide (-y ∈ tr)
def vstep (x : Int) (s : St) (k : Nat) : St × Bool :=
  let c := second x (s.cl.getD k [])
  if c.getD 0 0 ∈ s.tr then (⟨s.cl.set k c, s.wt, s.tr, s.kp ++ [k]⟩, true)
  else match other s.tr c with
    | some o => (⟨s.cl.set k (swp c 1 (o + 2)), upd s.wt (c.getD (o + 2) 0) (s.wt (c.getD (o + 2) 0) ++ [k]), s.tr, s.kp⟩, true)
    | none => if -(c.getD 0 0) ∈ s.tr then (⟨s.cl.set k c, s.wt, s.tr, s.kp ++ [k]⟩, false)
      else (⟨s.cl.set k c, s.wt, s.tr ++ [c.getD 0 0], s.kp ++ [k]⟩, true)
def ClOk (V : Nat) (cl : List (List Int)) : Prop := ∀ c ∈ cl, 2 ≤ c.length ∧ c.Nodup ∧ ∀ x ∈ c, x ≠ 0 ∧ x.natAbs ≤ V
def TrOk (V : Nat) (tr : List Int) : Prop := (∀ x ∈ tr, x ≠ 0 ∧ x.natAbs ≤ V) ∧ (tr.map Int.natAbs).Nodup
def WtOk (cl : List (List Int)) (wt : Int → List Nat) : Prop := ∀ x, (wt x).Nodup ∧ ∀ k, k ∈ wt x ↔ ∃ c, cl[k]? = some c ∧ (c[0]? = some x ∨ c[1]? = some x)
def Wat (cl : List (List Int)) (T U : List Int) : Prop := ∀ c ∈ cl, ∀ a b, c[0]? = some a → c[1]? = some b → (-a ∈ T → b ∈ U) ∧ (-b ∈ T → a ∈ U)
def Perms (cl0 cl : List (List Int)) : Prop := cl.length = cl0.length ∧ ∀ (k : Nat) c c0, cl[k]? = some c → cl0[k]? = some c0 → c.Perm c0
/-- what is granted is closed under clauses all of whose other literals are false -/
def Unit (G : Int → Prop) (cl : List (List Int)) : Prop := ∀ c ∈ cl, ∀ y ∈ c, (∀ z ∈ c, z ≠ y → G (-z)) → G y
theorem Perms.refl (cl : List (List Int)) : Perms cl cl := ⟨rfl, fun k c c0 h1 h2 => by rw [h1] at h2; cases h2; exact List.Perm.refl _⟩
theorem Perms.set {cl0 cl : List (List Int)} (h : Perms cl0 cl) {k : Nat} {c c' : List Int} (hc : cl[k]? = some c) (hp : c'.Perm c) : Perms cl0 (cl.set k c') := by
  refine ⟨by simp [h.1], fun j d d0 h1 h2 => ?_⟩
  rw [List.getElem?_set] at h1
  by_cases hj : k = j
  · subst hj
    have hk := (List.getElem?_eq_some_iff.1 hc).1
    simp [hk] at h1
    subst h1
    exact hp.trans (h.2 k c d0 hc h2)
  · rw [if_neg hj] at h1
    exact h.2 j d d0 h1 h2
theorem Perms.mem {cl0 cl : List (List Int)} (h : Perms cl0 cl) {c : List Int} (hc : c ∈ cl) : ∃ c0 ∈ cl0, c.Perm c0 := by
  obtain ⟨k, hk, rfl⟩ := List.getElem_of_mem hc
  have hk0 : k < cl0.length := by rw [← h.1]; exact hk
  exact ⟨cl0[k], List.getElem_mem hk0, h.2 k _ _ (List.getElem?_eq_getElem hk) (List.getElem?_eq_getElem hk0)⟩
theorem Perms.mem' {cl0 cl : List (List Int)} (h : Perms cl0 cl) {c : List Int} (hc : c ∈ cl0) : ∃ c1 ∈ cl, c1.Perm c := by
  obtain ⟨k, hk, rfl⟩ := List.getElem_of_mem hc
  have hk0 : k < cl.length := by rw [h.1]; exact hk
  exact ⟨cl[k], List.getElem_mem hk0, h.2 k _ _ (List.getElem?_eq_getElem hk0) (List.getElem?_eq_getElem hk)⟩
theorem Unit.perm {G : Int → Prop} {cl0 cl : List (List Int)} (h : Perms cl0 cl) (hu : Unit G cl0) : Unit G cl := by
  intro c hc y hy hz
  obtain ⟨c0, hc0, hp⟩ := h.mem hc
  exact hu c0 hc0 y (hp.mem_iff.1 hy) fun z hz0 hne => hz z (hp.mem_iff.2 hz0) hne
theorem TrOk.not_both {V : Nat} {tr : List Int} (h : TrOk V tr) {x : Int} (hx : x ∈ tr) : -x ∉ tr := by
  intro hn
  obtain ⟨i, hi, e1⟩ := List.getElem_of_mem hx
  obtain ⟨j, hj, e2⟩ := List.getElem_of_mem hn
  have h0 := (h.1 x hx).1
  have hij : i ≠ j := by
    rintro rfl
    rw [e1] at e2; omega
  have hnd := h.2
  have a1 : (tr.map Int.natAbs)[i]'(by simpa using hi) = (tr.map Int.natAbs)[j]'(by simpa using hj) := by
    simp [e1, e2]
  exact hij ((List.getElem_inj hnd).1 a1)
/-- what holds while a list is visited; T: the literals that were visited before, Cs: the beginnings of the trail that are gone back to -/
structure VI (V : Nat) (G : Int → Prop) (cl0 : List (List Int)) (Cs : List (List Int)) (T tr0 : List Int) (x : Int) (s : St) (rest : List Nat) : Prop where
  cl : ClOk V s.cl
  tr : TrOk V s.tr
  wt : WtOk s.cl (upd s.wt x (s.kp ++ rest))
  wat : Wat s.cl T s.tr
  cks : ∀ P ∈ Cs, Wat s.cl P P
  pre : tr0 <+: s.tr
  kept : ∀ k ∈ s.kp, ∀ c a b, s.cl[k]? = some c → c[0]? = some a → c[1]? = some b → (a = x → b ∈ s.tr) ∧ (b = x → a ∈ s.tr)
  perm : Perms cl0 s.cl
  g : ∀ y ∈ s.tr, G y
/-- a clause all of whose literals are false was found -/
structure VC (V : Nat) (G : Int → Prop) (cl0 : List (List Int)) (Cs : List (List Int)) (tr0 : List Int) (x : Int) (s : St) (rest : List Nat) : Prop where
  cl : ClOk V s.cl
  tr : TrOk V s.tr
  wt : WtOk s.cl (upd s.wt x (s.kp ++ rest))
  cks : ∀ P ∈ Cs, Wat s.cl P P
  pre : tr0 <+: s.tr
  perm : Perms cl0 s.cl
  g : ∀ y ∈ s.tr, G y
  bad : ∃ c ∈ s.cl, ∀ z ∈ c, -z ∈ s.tr
theorem WtOk.set_same {cl : List (List Int)} {wt : Int → List Nat} (h : WtOk cl wt) {k : Nat} {c c' : List Int} (hc : cl[k]? = some c) (hs : ∀ y, (c'[0]? = some y ∨ c'[1]? = some y) ↔ (c[0]? = some y ∨ c[1]? = some y)) : WtOk (cl.set k c') wt := by
  intro y
  refine ⟨(h y).1, fun j => ?_⟩
  rw [(h y).2 j, List.getElem?_set]
  have hk := (List.getElem?_eq_some_iff.1 hc).1
  by_cases hj : k = j
  · subst hj
    simp only [if_true, hk, hc, Option.some.injEq]
    constructor
    · rintro ⟨d, rfl, h1⟩; exact ⟨c', rfl, (hs y).2 h1⟩
    · rintro ⟨d, rfl, h1⟩; exact ⟨c, rfl, (hs y).1 h1⟩
  · rw [if_neg hj]
theorem Wat.set {cl : List (List Int)} {T U : List Int} (h : Wat cl T U) {k : Nat} {c' : List Int} (hc : ∀ a b, c'[0]? = some a → c'[1]? = some b → (-a ∈ T → b ∈ U) ∧ (-b ∈ T → a ∈ U)) : Wat (cl.set k c') T U := by
  intro c hm
  rcases List.mem_or_eq_of_mem_set hm with h1 | rfl
  · exact h c h1
  · exact hc
theorem Wat.grow {cl : List (List Int)} {T U U' : List Int} (h : Wat cl T U) (hu : ∀ x ∈ U, x ∈ U') : Wat cl T U' := fun c hm a b h0 h1 => ⟨fun e => hu _ ((h c hm a b h0 h1).1 e), fun e => hu _ ((h c hm a b h0 h1).2 e)⟩
theorem ClOk.set {V : Nat} {cl : List (List Int)} (h : ClOk V cl) {k : Nat} {c c' : List Int} (hc : cl[k]? = some c) (hp : c'.Perm c) : ClOk V (cl.set k c') := by
  intro d hm
  rcases List.mem_or_eq_of_mem_set hm with h1 | rfl
  · exact h d h1
  · obtain ⟨h1, h2, h3⟩ := h c (List.mem_of_getElem? hc)
    exact ⟨by rw [hp.length_eq]; exact h1, hp.nodup_iff.2 h2, fun x hx => h3 x (hp.mem_iff.1 hx)⟩
/-- the clause as it lies behind the exchange: x is second -/
theorem second_spec {x : Int} {c : List Int} (h2 : 2 ≤ c.length) (hx : c[0]? = some x ∨ c[1]? = some x) (hn : c.Nodup) :
    (second x c).Perm c ∧ (second x c)[1]? = some x ∧ (∀ y, ((second x c)[0]? = some y ∨ (second x c)[1]? = some y) ↔ (c[0]? = some y ∨ c[1]? = some y)) := by
  unfold second
  by_cases h : c.getD 0 0 = x
  · rw [if_pos h]
    have h0 : c[0]? = some x := by
      rw [List.getElem?_eq_getElem (by omega)]
      rw [List.getD_eq_getElem?_getD, List.getElem?_eq_getElem (by omega)] at h
      simpa using h
    refine ⟨swp_perm (by omega) (by omega), ?_, fun y => ?_⟩
    · rw [swp_get (by omega) (by omega), if_pos rfl, h0]
    · rw [swp_get (by omega) (by omega), swp_get (by omega) (by omega)]
      simp only [show ¬ (0 : Nat) = 1 by omega, if_false, if_true]
      exact Or.comm
  · rw [if_neg h]
    refine ⟨List.Perm.refl _, ?_, fun y => Iff.rfl⟩
    rcases hx with hx | hx
    · exfalso; apply h; rw [List.getD_eq_getElem?_getD, hx]; rfl
    · exact hx
theorem second_id {x : Int} {c : List Int} (h : c.getD 0 0 ≠ x) : second x c = c := if_neg h
theorem second_sw {x : Int} {c : List Int} (h : c.getD 0 0 = x) : second x c = swp c 0 1 := if_pos h
theorem other_some {tr c : List Int} {o : Nat} (h : other tr c = some o) : ∃ y, c[o + 2]? = some y ∧ -y ∉ tr := by
  unfold other at h
  rw [List.findIdx?_eq_some_iff_getElem] at h
  obtain ⟨h1, h2, _⟩ := h
  refine ⟨(c.drop 2)[o], ?_, by simpa using h2⟩
  rw [List.getElem_drop, Nat.add_comm o 2, List.getElem?_eq_getElem]
theorem other_none {tr c : List Int} (h : other tr c = none) : ∀ i y, 2 ≤ i → c[i]? = some y → -y ∈ tr := by
  unfold other at h
  rw [List.findIdx?_eq_none_iff] at h
  intro i y hi hy
  have : y ∈ c.drop 2 := by
    have h2 : (c.drop 2)[i - 2]? = some y := by rw [List.getElem?_drop]; rw [show 2 + (i - 2) = i by omega]; exact hy
    exact List.mem_of_getElem? h2
  simpa using h y this

theorem second_two {x : Int} {c : List Int} (h2 : 2 ≤ c.length) {a b : Int} (h0 : (second x c)[0]? = some a) (h1 : (second x c)[1]? = some b) : (c[0]? = some a ∧ c[1]? = some b) ∨ (c[0]? = some b ∧ c[1]? = some a) := by
  unfold second at h0 h1
  by_cases h : c.getD 0 0 = x
  · rw [if_pos h] at h0 h1
    rw [swp_get (by omega) (by omega)] at h0 h1
    simp at h0 h1
    exact .inr ⟨h1, h0⟩
  · rw [if_neg h] at h0 h1
    exact .inl ⟨h0, h1⟩
theorem Wat.second {cl : List (List Int)} {T U : List Int} (h : Wat cl T U) {x : Int} {k : Nat} {c : List Int} (hc : cl[k]? = some c) (h2 : 2 ≤ c.length) : Wat (cl.set k (second x c)) T U := by
  refine h.set fun a b h0 h1 => ?_
  have := h c (List.mem_of_getElem? hc)
  rcases second_two h2 h0 h1 with ⟨e0, e1⟩ | ⟨e0, e1⟩
  · exact this a b e0 e1
  · exact (this b a e0 e1).symm
theorem getD_of {cl : List (List Int)} {k : Nat} {c : List Int} (hc : cl[k]? = some c) : cl.getD k [] = c := by rw [List.getD_eq_getElem?_getD, hc]; rfl
theorem vstep_true {x : Int} {s : St} {k : Nat} {c : List Int} (hc : s.cl[k]? = some c) (h : (second x c).getD 0 0 ∈ s.tr) : vstep x s k = (⟨s.cl.set k (second x c), s.wt, s.tr, s.kp ++ [k]⟩, true) := by
  unfold vstep; simp only [getD_of hc]; rw [if_pos h]
theorem vstep_move {x : Int} {s : St} {k o : Nat} {c : List Int} (hc : s.cl[k]? = some c) (h : (second x c).getD 0 0 ∉ s.tr) (ho : other s.tr (second x c) = some o) :
    vstep x s k = (⟨s.cl.set k (swp (second x c) 1 (o + 2)), upd s.wt ((second x c).getD (o + 2) 0) (s.wt ((second x c).getD (o + 2) 0) ++ [k]), s.tr, s.kp⟩, true) := by
  unfold vstep; simp only [getD_of hc]; rw [if_neg h, ho]
theorem vstep_conf {x : Int} {s : St} {k : Nat} {c : List Int} (hc : s.cl[k]? = some c) (h : (second x c).getD 0 0 ∉ s.tr) (ho : other s.tr (second x c) = none) (hf : -(second x c).getD 0 0 ∈ s.tr) :
    vstep x s k = (⟨s.cl.set k (second x c), s.wt, s.tr, s.kp ++ [k]⟩, false) := by
  unfold vstep; simp only [getD_of hc]; rw [if_neg h, ho]; simp only; rw [if_pos hf]
theorem vstep_unit {x : Int} {s : St} {k : Nat} {c : List Int} (hc : s.cl[k]? = some c) (h : (second x c).getD 0 0 ∉ s.tr) (ho : other s.tr (second x c) = none) (hf : -(second x c).getD 0 0 ∉ s.tr) :
    vstep x s k = (⟨s.cl.set k (second x c), s.wt, s.tr ++ [(second x c).getD 0 0], s.kp ++ [k]⟩, true) := by
  unfold vstep; simp only [getD_of hc]; rw [if_neg h, ho]; simp only; rw [if_neg hf]
section
variable {V : Nat} {G : Int → Prop} {cl0 Cs : List (List Int)} {T tr0 : List Int} {x : Int} {s : St} {k : Nat} {rest : List Nat}
/-- the clause of a number of the list -/
theorem VI.here (h : VI V G cl0 Cs T tr0 x s (k :: rest)) : ∃ c, s.cl[k]? = some c ∧ (c[0]? = some x ∨ c[1]? = some x) ∧ 2 ≤ c.length ∧ c.Nodup := by
  have := ((h.wt x).2 k).1 (by simp [upd])
  obtain ⟨c, hc, hx⟩ := this
  obtain ⟨h1, h2, _⟩ := h.cl c (List.mem_of_getElem? hc)
  exact ⟨c, hc, hx, h1, h2⟩
theorem VI.second (h : VI V G cl0 Cs T tr0 x s (k :: rest)) {c : List Int} (hc : s.cl[k]? = some c) : VI V G cl0 Cs T tr0 x ⟨s.cl.set k (second x c), s.wt, s.tr, s.kp⟩ (k :: rest) := by
  obtain ⟨c', hc', hx, h2, hn⟩ := h.here
  rw [hc] at hc'
  cases hc'
  obtain ⟨hp, h1, hs⟩ := second_spec h2 hx hn
  refine ⟨h.cl.set hc hp, h.tr, h.wt.set_same hc hs, h.wat.second hc h2, fun P hP => (h.cks P hP).second hc h2, h.pre, ?_, h.perm.set hc hp, h.g⟩
  intro j hj d a b hd h0 hd1
  have hne : k ≠ j := by
    rintro rfl
    have := (h.wt x).1
    simp only [upd, if_true] at this
    rw [List.nodup_append] at this
    exact this.2.2 k hj k (by simp) rfl
  rw [List.getElem?_set_ne hne] at hd
  exact h.kept j hj d a b hd h0 hd1
theorem vstep_inv (h : VI V G cl0 Cs T tr0 x s (k :: rest)) (hx : -x ∈ tr0) (hT : ∀ y ∈ T, y ∈ tr0) (hCs : ∀ P ∈ Cs, ∀ y ∈ P, y ∈ tr0) (hG : Unit G cl0) :
    ((vstep x s k).2 = true → VI V G cl0 Cs T tr0 x (vstep x s k).1 rest) ∧ ((vstep x s k).2 = false → VC V G cl0 Cs tr0 x (vstep x s k).1 rest) := by
  obtain ⟨c0, hc0, hx0, h2, hn⟩ := h.here
  obtain ⟨hp, h1, hs⟩ := second_spec h2 hx0 hn
  have hI := h.second hc0
  unfold vstep
  have hgd : s.cl.getD k [] = c0 := by rw [List.getD_eq_getElem?_getD, hc0]; rfl
  rw [hgd]
  obtain ⟨c, hcd⟩ : ∃ c, Sv.second x c0 = c := ⟨_, rfl⟩
  have hk : k < s.cl.length := (List.getElem?_eq_some_iff.1 hc0).1
  obtain ⟨cl1, hcl1⟩ : ∃ l, s.cl.set k c = l := ⟨_, rfl⟩
  have hc : cl1[k]? = some c := by rw [← hcl1]; simp [hk]
  rw [hcd, hcl1] at hI
  rw [hcd] at hp h1 hs ⊢
  have hlen : 2 ≤ c.length := by rw [hp.length_eq]; exact h2
  have hnd : c.Nodup := hp.nodup_iff.2 hn
  have hset : ∀ d, s.cl.set k d = cl1.set k d := by intro d; rw [← hcl1, List.set_set]
  have hcs : s.cl.set k c = cl1 := hcl1
  simp only [hcs, hset]
  obtain ⟨a, ha⟩ : ∃ a, c[0]? = some a := ⟨_, List.getElem?_eq_getElem (by omega)⟩
  have hga : c.getD 0 0 = a := by rw [List.getD_eq_getElem?_getD, ha]; rfl
  rw [hga]
  have hax : a ≠ x := by
    rintro rfl
    obtain ⟨l1, e1⟩ := List.getElem?_eq_some_iff.1 ha
    obtain ⟨l2, e2⟩ := List.getElem?_eq_some_iff.1 h1
    have := (List.getElem_inj hnd).1 (e1.trans e2.symm)
    omega
  have hxt : -x ∈ s.tr := h.pre.subset hx
  have hxn : x ∉ s.tr := fun e => h.tr.not_both e hxt
  have hnd0 := (hI.wt x).1
  simp only [upd, if_true] at hnd0
  have hkk : k ∉ s.kp ∧ k ∉ rest ∧ (s.kp ++ rest).Nodup := by
    have hq : (k :: (s.kp ++ rest)).Nodup := (List.perm_middle.nodup_iff).1 hnd0
    rw [List.nodup_cons] at hq
    exact ⟨fun e => hq.1 (by simp [e]), fun e => hq.1 (by simp [e]), hq.2⟩
  have hcm : c ∈ cl1 := List.mem_of_getElem? hc
  by_cases hat : a ∈ s.tr
  · rw [if_pos hat]
    refine ⟨fun _ => ?_, fun e => by simp at e⟩
    refine ⟨hI.cl, hI.tr, by simpa using hI.wt, hI.wat, hI.cks, hI.pre, ?_, hI.perm, hI.g⟩
    intro j hj d p q hd h0 hd1
    rcases List.mem_append.1 hj with hj | hj
    · exact hI.kept j hj d p q hd h0 hd1
    · simp at hj
      subst hj
      rw [hc] at hd
      cases hd
      rw [ha] at h0
      rw [h1] at hd1
      cases h0; cases hd1
      exact ⟨fun e => absurd e hax, fun _ => hat⟩
  · rw [if_neg hat]
    cases ho : other s.tr c with
    | some o =>
      refine ⟨fun _ => ?_, fun e => by simp at e⟩
      obtain ⟨y, hy, hyt⟩ := other_some ho
      have hol : o + 2 < c.length := (List.getElem?_eq_some_iff.1 hy).1
      have hgy : c.getD (o + 2) 0 = y := by rw [List.getD_eq_getElem?_getD, hy]; rfl
      simp only [hgy]
      have inj : ∀ {i j : Nat} {v : Int}, c[i]? = some v → c[j]? = some v → i = j := by
        intro i j v e1 e2
        obtain ⟨_, f1⟩ := List.getElem?_eq_some_iff.1 e1
        obtain ⟨_, f2⟩ := List.getElem?_eq_some_iff.1 e2
        exact (List.getElem_inj hnd).1 (f1.trans f2.symm)
      have hyx : y ≠ x := by rintro rfl; have := inj hy h1; omega
      have hya : y ≠ a := by rintro rfl; have := inj hy ha; omega
      have c20 : (swp c 1 (o + 2))[0]? = some a := by rw [swp_get (by omega) hol, if_neg (by omega), if_neg (by omega), ha]
      have c21 : (swp c 1 (o + 2))[1]? = some y := by rw [swp_get (by omega) hol, if_neg (by omega), if_pos rfl, hy]
      have hpp : (swp c 1 (o + 2)).Perm c := swp_perm (by omega) hol
      refine ⟨hI.cl.set hc hpp, hI.tr, ?_, ?_, ?_, hI.pre, ?_, hI.perm.set hc hpp, hI.g⟩
      · intro z
        have hz := hI.wt z
        by_cases hzx : z = x
        · subst hzx
          simp only [upd, if_true] at hz ⊢
          refine ⟨hkk.2.2, fun j => ?_⟩
          rw [List.getElem?_set]
          by_cases hj : k = j
          · subst hj
            have hk1 : k < cl1.length := (List.getElem?_eq_some_iff.1 hc).1
            simp only [if_true, hk1, Option.some.injEq]
            constructor
            · intro e; rcases List.mem_append.1 e with e | e
              · exact absurd e hkk.1
              · exact absurd e hkk.2.1
            · rintro ⟨d, rfl, e | e⟩
              · rw [c20] at e; cases e; exact absurd rfl hax
              · rw [c21] at e; cases e; exact absurd rfl hyx
          · rw [if_neg hj, ← hz.2 j]
            simp only [List.mem_append, List.mem_cons]
            constructor
            · rintro (e | e) <;> simp [e]
            · rintro (e | rfl | e)
              · exact .inl e
              · exact absurd rfl hj
              · exact .inr e
        · by_cases hzy : z = y
          · subst hzy
            simp only [upd, if_true, if_neg hzx] at hz ⊢
            have hkn : k ∉ s.wt z := by
              intro e
              obtain ⟨d, hd, e2⟩ := (hz.2 k).1 e
              rw [hc] at hd
              cases hd
              rcases e2 with e2 | e2
              · rw [ha] at e2; cases e2; exact hya rfl
              · rw [h1] at e2; cases e2; exact hzx rfl
            refine ⟨?_, fun j => ?_⟩
            · rw [List.nodup_append]
              refine ⟨hz.1, by simp, fun p hp q hq e => ?_⟩
              simp at hq
              subst hq; subst e
              exact hkn hp
            · rw [List.getElem?_set]
              by_cases hj : k = j
              · subst hj
                have hk1 : k < cl1.length := (List.getElem?_eq_some_iff.1 hc).1
                simp [hk1, c21]
              · rw [if_neg hj, ← hz.2 j]
                simp [show ¬ j = k from fun e => hj e.symm]
          · simp only [upd, if_neg hzx, if_neg hzy] at hz ⊢
            refine ⟨hz.1, fun j => ?_⟩
            rw [hz.2 j, List.getElem?_set]
            by_cases hj : k = j
            · subst hj
              have hk1 : k < cl1.length := (List.getElem?_eq_some_iff.1 hc).1
              simp only [if_true, hk1, hc, Option.some.injEq]
              constructor
              · rintro ⟨d, rfl, e | e⟩
                · exact ⟨_, rfl, .inl (by rw [c20, ← ha]; exact e)⟩
                · rw [h1] at e; cases e; exact absurd rfl hzx
              · rintro ⟨d, rfl, e | e⟩
                · exact ⟨_, rfl, .inl (by rw [ha, ← c20]; exact e)⟩
                · rw [c21] at e; cases e; exact absurd rfl hzy
            · rw [if_neg hj]
      · refine hI.wat.set fun p q h0 hd1 => ?_
        rw [c20] at h0
        rw [c21] at hd1
        cases h0; cases hd1
        exact ⟨fun e => absurd ((hI.wat c hcm _ _ ha h1).1 e) hxn, fun e => absurd (hI.pre.subset (hT _ e)) hyt⟩
      · intro P hP
        refine (hI.cks P hP).set fun p q h0 hd1 => ?_
        rw [c20] at h0
        rw [c21] at hd1
        cases h0; cases hd1
        exact ⟨fun e => absurd (hI.pre.subset (hCs P hP _ ((hI.cks P hP c hcm _ _ ha h1).1 e))) hxn, fun e => absurd (hI.pre.subset (hCs P hP _ e)) hyt⟩
      · intro j hj d p q hd h0 hd1
        have hne : k ≠ j := by rintro rfl; exact hkk.1 hj
        rw [List.getElem?_set_ne hne] at hd
        exact hI.kept j hj d p q hd h0 hd1
    | none =>
      have hf : ∀ z ∈ c, z ≠ a → -z ∈ s.tr := by
        intro z hz hne
        obtain ⟨i, hi, rfl⟩ := List.getElem_of_mem hz
        have e := List.getElem?_eq_getElem hi
        rcases Nat.lt_or_ge i 2 with hi2 | hi2
        · rcases (by omega : i = 0 ∨ i = 1) with rfl | rfl
          · rw [e] at ha; cases ha; exact absurd rfl hne
          · rw [e] at h1; cases h1; exact hxt
        · exact other_none ho i _ hi2 e
      have ham : a ∈ c := List.mem_of_getElem? ha
      simp only
      by_cases han : -a ∈ s.tr
      · rw [if_pos han]
        refine ⟨fun e => by simp at e, fun _ => ?_⟩
        refine ⟨hI.cl, hI.tr, by simpa using hI.wt, hI.cks, hI.pre, hI.perm, hI.g, c, hcm, fun z hz => ?_⟩
        by_cases e : z = a
        · subst e; exact han
        · exact hf z hz e
      · rw [if_neg han]
        refine ⟨fun _ => ?_, fun e => by simp at e⟩
        have hal := (hI.cl c hcm).2.2 a ham
        have hga2 : G a := hG.perm hI.perm c hcm a ham fun z hz hne => hI.g _ (hf z hz hne)
        refine ⟨hI.cl, ?_, by simpa using hI.wt, hI.wat.grow (fun z hz => by simp [hz]), hI.cks, hI.pre.trans (List.prefix_append _ _), ?_, hI.perm, ?_⟩
        · refine ⟨fun z hz => ?_, ?_⟩
          · rcases List.mem_append.1 hz with hz | hz
            · exact hI.tr.1 z hz
            · simp at hz; subst hz; exact hal
          · rw [List.map_append, List.nodup_append]
            refine ⟨hI.tr.2, by simp, fun p hp q hq e => ?_⟩
            simp at hq
            subst hq; subst e
            obtain ⟨z, hz, hza⟩ := List.mem_map.1 hp
            rcases Int.natAbs_eq_natAbs_iff.1 hza with e | e
            · subst e; exact hat hz
            · subst e; exact han hz
        · intro j hj d p q hd h0 hd1
          rcases List.mem_append.1 hj with hj | hj
          · have := hI.kept j hj d p q hd h0 hd1
            exact ⟨fun e => by simp [this.1 e], fun e => by simp [this.2 e]⟩
          · simp at hj
            subst hj
            rw [hc] at hd
            cases hd
            rw [ha] at h0
            rw [h1] at hd1
            cases h0; cases hd1
            exact ⟨fun e => absurd e hax, fun _ => by simp⟩
        · intro z hz
          rcases List.mem_append.1 hz with hz | hz
          · exact hI.g z hz
          · simp at hz; subst hz; exact hga2
end
end Go.Proofs.Sv
end

section
/- Unit propagation: what follows from clauses, in whatever order. Nothing of a program. -/
namespace Go.Proofs.Rp
open Go.Proofs.Sv
set_option linter.unusedVariables false
set_option linter.unusedSimpArgs false
/-- what follows from clauses and assumed literals by clauses all of whose other literals are false -/
inductive Der (F : List (List Int)) (A : List Int) : Int → Prop
  | asm {x : Int} (h : x ∈ A) : Der F A x
  | unit {C : List Int} {x : Int} (hC : C ∈ F) (hx : x ∈ C) (ho : ∀ y ∈ C, y ≠ x → Der F A (-y)) : Der F A x
def Cnf (F : List (List Int)) (A : List Int) : Prop := (∃ x, Der F A x ∧ Der F A (-x)) ∨ [] ∈ F
theorem Der.least {F : List (List Int)} {A : List Int} {G : Int → Prop} (hA : ∀ x ∈ A, G x) (hU : Unit G F) {x : Int} (h : Der F A x) : G x := by
  induction h with
  | asm h => exact hA _ h
  | unit hC hx ho ih => exact hU _ hC _ hx ih
theorem Der.closed (F : List (List Int)) (A : List Int) : Unit (Der F A) F := fun C hC y hy hz => .unit hC hy hz
/-- a clause with the same literals -/
def Same (C C' : List Int) : Prop := ∀ x, x ∈ C ↔ x ∈ C'
theorem Same.nil {C : List Int} (h : Same [] C) : C = [] := by
  cases C with
  | nil => rfl
  | cons x l => exact absurd ((h x).2 (by simp)) (by simp)
def Sub (F F' : List (List Int)) : Prop := ∀ C ∈ F, ∃ C' ∈ F', Same C C'
theorem Sub.refl (F : List (List Int)) : Sub F F := fun C h => ⟨C, h, fun _ => Iff.rfl⟩
theorem Sub.of_mem {F F' : List (List Int)} (h : ∀ C ∈ F, C ∈ F') : Sub F F' := fun C hc => ⟨C, h C hc, fun _ => Iff.rfl⟩
theorem Der.mono {F F' : List (List Int)} {A A' : List Int} (hF : Sub F F') (hA : ∀ x ∈ A, x ∈ A') {x : Int} (h : Der F A x) : Der F' A' x := by
  induction h with
  | asm h => exact .asm (hA _ h)
  | unit hC hx ho ih =>
    obtain ⟨C', hC', hs⟩ := hF _ hC
    exact .unit hC' ((hs _).1 hx) fun y hy hne => ih y ((hs y).2 hy) hne
theorem Cnf.mono {F F' : List (List Int)} {A A' : List Int} (hF : Sub F F') (hA : ∀ x ∈ A, x ∈ A') (h : Cnf F A) : Cnf F' A' := by
  rcases h with ⟨x, h1, h2⟩ | h
  · exact .inl ⟨x, h1.mono hF hA, h2.mono hF hA⟩
  · obtain ⟨C', hC', hs⟩ := hF _ h
    exact .inr (by rw [← hs.nil]; exact hC')
theorem Cnf.iff {F F' : List (List Int)} {A A' : List Int} (hF : Sub F F') (hF' : Sub F' F) (hA : ∀ x, x ∈ A ↔ x ∈ A') : Cnf F A ↔ Cnf F' A' := ⟨fun h => h.mono hF fun x => (hA x).1, fun h => h.mono hF' fun x => (hA x).2⟩
/-- a clause all of whose literals are false -/
theorem Cnf.of_bad {F : List (List Int)} {A : List Int} {C : List Int} (hC : C ∈ F) (h : ∀ y ∈ C, Der F A (-y)) : Cnf F A := by
  cases C with
  | nil => exact .inr hC
  | cons x l => exact .inl ⟨x, .unit hC (by simp) fun y hy _ => h y hy, h x (by simp)⟩
/-- a set that holds nothing but what follows, and is closed -/
theorem cnf_closed {F : List (List Int)} {A : List Int} {G : Int → Prop} (hA : ∀ x ∈ A, G x) (hG : ∀ x, G x → Der F A x) (hU : Unit G F) : Cnf F A ↔ (∃ x, G x ∧ G (-x)) ∨ [] ∈ F := by
  constructor
  · rintro (⟨x, h1, h2⟩ | h)
    · exact .inl ⟨x, h1.least hA hU, h2.least hA hU⟩
    · exact .inr h
  · rintro (⟨x, h1, h2⟩ | h)
    · exact .inl ⟨x, hG _ h1, hG _ h2⟩
    · exact .inr h
/-! ### The clauses as an engine keeps them -/
section
variable (d : List Int → List Int)
def tautB (c : List Int) : Bool := c.any fun x => c.contains (-x)
/-- a clause is kept -/
def bigsOf (F : List (List Int)) : List (List Int) := (F.map d).filter fun c => !tautB c && decide (2 ≤ c.length)
/-- a single literal -/
def onesOf (F : List (List Int)) : List Int := (F.map d).filterMap fun c => match c with | [x] => some x | _ => none
def noneOf (F : List (List Int)) : Bool := F.any fun c => (d c).isEmpty
variable {d}
variable (hm : ∀ l x, x ∈ d l ↔ x ∈ l)
include hm
theorem d_nil_iff {c : List Int} : d c = [] ↔ c = [] := by
  rw [List.eq_nil_iff_forall_not_mem, List.eq_nil_iff_forall_not_mem]
  simp only [hm]
theorem noneOf_iff (F : List (List Int)) : noneOf d F = true ↔ [] ∈ F := by
  unfold noneOf
  rw [List.any_eq_true]
  constructor
  · rintro ⟨c, hc, h⟩
    rw [List.isEmpty_iff, d_nil_iff hm] at h
    rw [← h]; exact hc
  · intro h
    exact ⟨[], h, by rw [List.isEmpty_iff, d_nil_iff hm]⟩
theorem der_keep {F : List (List Int)} {A : List Int} {x : Int} (h : Der (bigsOf d F) (A ++ onesOf d F) x) : Der F A x := by
  refine h.least (fun y hy => ?_) (fun C hC y hy ho => ?_)
  · rcases List.mem_append.1 hy with hy | hy
    · exact .asm hy
    · obtain ⟨c, hc, h1⟩ := List.mem_filterMap.1 hy
      obtain ⟨c0, hc0, rfl⟩ := List.mem_map.1 hc
      split at h1
      · rename_i z hz
        obtain rfl := Option.some.inj h1
        have hme : ∀ u, u ∈ c0 ↔ u = z := fun u => by rw [← hm, hz]; simp
        exact .unit hc0 ((hme z).2 rfl) fun u hu hne => absurd ((hme u).1 hu) hne
      · cases h1
  · obtain ⟨hC, _⟩ := List.mem_filter.1 hC
    obtain ⟨c0, hc0, rfl⟩ := List.mem_map.1 hC
    exact .unit hc0 ((hm _ _).1 hy) fun u hu hne => ho u ((hm _ _).2 hu) hne
theorem cnf_keep {F : List (List Int)} {A : List Int} (h0 : ∀ C ∈ F, ∀ x ∈ C, x ≠ 0) : Cnf F A ↔ noneOf d F = true ∨ ∃ x, Der (bigsOf d F) (A ++ onesOf d F) x ∧ Der (bigsOf d F) (A ++ onesOf d F) (-x) := by
  rw [noneOf_iff hm]
  constructor
  · intro h
    refine Classical.byContradiction fun hn => ?_
    have hn1 : [] ∉ F := fun e => hn (.inl e)
    have hn2 : ∀ x, Der (bigsOf d F) (A ++ onesOf d F) x → ¬ Der (bigsOf d F) (A ++ onesOf d F) (-x) := fun x a b => hn (.inr ⟨x, a, b⟩)
    have hU : Unit (Der (bigsOf d F) (A ++ onesOf d F)) F := by
      intro C hC x hx ho
      cases ht : tautB (d C) with
      | true =>
        obtain ⟨z, hz, hzn⟩ := List.any_eq_true.1 ht
        rw [hm] at hz
        have hzn : -z ∈ C := by rw [← hm]; simpa using hzn
        have hz0 := h0 C hC z hz
        by_cases h1 : z = x
        · subst h1
          have := ho (-z) hzn (by omega)
          rwa [Int.neg_neg] at this
        · by_cases h2 : -z = x
          · rw [← h2]; exact ho z hz h1
          · have a1 := ho z hz h1
            have a2 := ho (-z) hzn h2
            rw [Int.neg_neg] at a2
            exact absurd a1 (hn2 z a2)
      | false =>
        have hxd : x ∈ d C := (hm _ _).2 hx
        by_cases hl : 2 ≤ (d C).length
        · refine .unit (C := d C) (List.mem_filter.2 ⟨List.mem_map.2 ⟨C, hC, rfl⟩, by simp [ht, hl]⟩) hxd fun y hy hne => ho y ((hm _ _).1 hy) hne
        · have : d C = [x] := by
            cases hc : d C with
            | nil => rw [hc] at hxd; cases hxd
            | cons z l =>
              rw [hc] at hl hxd
              cases l with
              | nil => simp at hxd; rw [hxd]
              | cons u l => simp at hl
          exact .asm (List.mem_append.2 (.inr (List.mem_filterMap.2 ⟨d C, List.mem_map.2 ⟨C, hC, rfl⟩, by rw [this]⟩)))
    rcases h with ⟨x, h1, h2⟩ | h
    · have hA : ∀ y ∈ A, Der (bigsOf d F) (A ++ onesOf d F) y := fun y hy => .asm (by simp [hy])
      exact hn2 x (h1.least hA hU) (h2.least hA hU)
    · exact hn1 h
  · rintro (h | ⟨x, h1, h2⟩)
    · exact .inr h
    · exact .inl ⟨x, der_keep hm h1, der_keep hm h2⟩
end
/-! ### What a run of an engine says -/
/-- literals made true one after the other; none: one was false -/
def setAll : List Int → List Int → Option (List Int)
  | tr, [] => some tr
  | tr, x :: l => if x ∈ tr then setAll tr l else if -x ∈ tr then none else setAll (tr ++ [x]) l
theorem setAll_append : ∀ (l m tr : List Int), setAll tr (l ++ m) = (setAll tr l).bind fun t => setAll t m
  | [], m, tr => rfl
  | x :: l, m, tr => by
    simp only [List.cons_append, setAll]
    split
    · exact setAll_append l m tr
    · split
      · rfl
      · exact setAll_append l m _
theorem setAll_none {V : Nat} : ∀ {l tr : List Int}, setAll tr l = none → ∃ x, (x ∈ tr ∨ x ∈ l) ∧ (-x ∈ tr ∨ -x ∈ l)
  | [], tr, h => by cases h
  | x :: l, tr, h => by
    unfold setAll at h
    split at h
    · obtain ⟨y, h1, h2⟩ := setAll_none (V := V) h
      exact ⟨y, h1.imp id (by simp; exact .inr), h2.imp id (by simp; exact .inr)⟩
    · split at h
      · rename_i hx
        exact ⟨x, .inr (by simp), .inl hx⟩
      · obtain ⟨y, h1, h2⟩ := setAll_none (V := V) h
        refine ⟨y, ?_, ?_⟩
        · rcases h1 with h1 | h1
          · rcases List.mem_append.1 h1 with h1 | h1
            · exact .inl h1
            · exact .inr (by simp at h1; simp [h1])
          · exact .inr (by simp [h1])
        · rcases h2 with h2 | h2
          · rcases List.mem_append.1 h2 with h2 | h2
            · exact .inl h2
            · exact .inr (by simp at h2; simp [h2])
          · exact .inr (by simp [h2])
theorem tr_snoc {V : Nat} {tr : List Int} (h : TrOk V tr) {x : Int} (hx : x ≠ 0 ∧ x.natAbs ≤ V) (h1 : x ∉ tr) (h2 : -x ∉ tr) : TrOk V (tr ++ [x]) := by
  refine ⟨fun y hy => ?_, ?_⟩
  · rcases List.mem_append.1 hy with hy | hy
    · exact h.1 y hy
    · simp at hy; rw [hy]; exact hx
  · rw [List.map_append, List.nodup_append]
    refine ⟨h.2, by simp, fun a ha b hb e => ?_⟩
    simp at hb
    obtain ⟨y, hy, rfl⟩ := List.mem_map.1 ha
    rw [hb] at e
    rcases Int.natAbs_eq_natAbs_iff.1 e with e | e
    · rw [e] at hy; exact h1 hy
    · rw [e] at hy; exact h2 hy
theorem setAll_some {V : Nat} : ∀ {l tr t : List Int}, (∀ x ∈ l, x ≠ 0 ∧ x.natAbs ≤ V) → TrOk V tr → setAll tr l = some t → TrOk V t ∧ tr <+: t ∧ ∀ x, x ∈ t ↔ x ∈ tr ∨ x ∈ l
  | [], tr, t, hl, ht, h => by
    obtain rfl := Option.some.inj h
    exact ⟨ht, List.prefix_refl _, by simp⟩
  | x :: l, tr, t, hl, ht, h => by
    unfold setAll at h
    split at h
    · rename_i hx
      obtain ⟨h1, h2, h3⟩ := setAll_some (fun y hy => hl y (by simp [hy])) ht h
      refine ⟨h1, h2, fun y => ?_⟩
      rw [h3]; simp only [List.mem_cons]
      exact ⟨fun e => e.imp id .inr, fun e => e.elim .inl fun e => e.elim (fun e => .inl (e ▸ hx)) .inr⟩
    · rename_i hx
      split at h
      · cases h
      · rename_i hnx
        obtain ⟨h1, h2, h3⟩ := setAll_some (fun y hy => hl y (by simp [hy])) (tr_snoc ht (hl x (by simp)) hx hnx) h
        refine ⟨h1, (List.prefix_append _ _).trans h2, fun y => ?_⟩
        rw [h3]
        simp only [List.mem_append, List.mem_cons, List.not_mem_nil, or_false]
        rw [or_assoc]
/-- a trail under which the watches stand is closed -/
theorem unit_of_wat {V : Nat} {cl : List (List Int)} {tr : List Int} (hc : ClOk V cl) (ht : TrOk V tr) (hw : Wat cl tr tr) : Unit (· ∈ tr) cl := by
  intro c hcm x hx ho
  obtain ⟨h2, hn, _⟩ := hc c hcm
  have h0 : c[0]? = some c[0] := List.getElem?_eq_getElem (by omega)
  have h1 : c[1]? = some c[1] := List.getElem?_eq_getElem (by omega)
  have hne : c[0] ≠ c[1] := fun e => by have := (List.getElem_inj hn).1 e; omega
  obtain ⟨w1, w2⟩ := hw c hcm _ _ h0 h1
  by_cases ha : c[0] = x
  · have hb : c[1] ≠ x := fun e => hne (ha.trans e.symm)
    have := w2 (ho _ (List.getElem_mem _) hb)
    rwa [ha] at this
  · have hb := w1 (ho _ (List.getElem_mem _) ha)
    by_cases hbx : c[1] = x
    · rwa [hbx] at hb
    · exact absurd (ho _ (List.getElem_mem _) hbx) (ht.not_both hb)
end Go.Proofs.Rp
end

section
/- Refutations by unit propagation: what accepts them, that they are sound, and what makes them least. Nothing of a program. -/
namespace Go.Proofs.Rp
open Go.Proofs.Sv
set_option linter.unusedVariables false
set_option linter.unusedSimpArgs false
/-! ### It can be reckoned -/
def fires (F : List (List Int)) (all : List Int) : Option Int := F.findSome? fun C => C.find? fun x => !all.contains x && C.all fun y => y == x || all.contains (-y)
def closeF (F : List (List Int)) : Nat → List Int → List Int
  | 0, all => all
  | n + 1, all => match fires F all with
    | none => all
    | some x => closeF F n (x :: all)
def cnfB (F : List (List Int)) (A : List Int) : Bool := (closeF F F.flatten.length A).any (fun x => (closeF F F.flatten.length A).contains (-x)) || F.contains []
theorem fires_some {F : List (List Int)} {all : List Int} {x : Int} (h : fires F all = some x) : ∃ C ∈ F, x ∈ C ∧ x ∉ all ∧ ∀ y ∈ C, y ≠ x → -y ∈ all := by
  obtain ⟨C, hC, h⟩ := List.exists_of_findSome?_eq_some h
  have h1 := List.find?_some h
  have h2 := List.mem_of_find?_eq_some h
  simp only [Bool.and_eq_true, Bool.not_eq_true', List.all_eq_true, Bool.or_eq_true, beq_iff_eq, List.contains_iff_mem] at h1
  refine ⟨C, hC, h2, ?_, fun y hy hne => (h1.2 y hy).resolve_left hne⟩
  intro e
  have := h1.1
  rw [List.contains_iff_mem.2 e] at this
  cases this
theorem fires_none {F : List (List Int)} {all : List Int} (h : fires F all = none) : Unit (· ∈ all) F := by
  intro C hC x hx ho
  unfold fires at h
  rw [List.findSome?_eq_none_iff] at h
  have := h C hC
  rw [List.find?_eq_none] at this
  have := this x hx
  simp only [Bool.and_eq_true, Bool.not_eq_true', List.all_eq_true, Bool.or_eq_true, beq_iff_eq, List.contains_iff_mem] at this
  refine Classical.byContradiction fun hn => this ⟨?_, fun y hy => ?_⟩
  · cases hc : all.contains x with
    | false => rfl
    | true => exact absurd (List.contains_iff_mem.1 hc) hn
  · by_cases e : y = x
    · exact .inl e
    · exact .inr (ho y hy e)
def leftN (F : List (List Int)) (all : List Int) : Nat := (F.flatten.filter fun x => !all.contains x).length
theorem leftN_lt {F : List (List Int)} {all : List Int} {x : Int} (h1 : x ∈ F.flatten) (h2 : x ∉ all) : leftN F (x :: all) < leftN F all := by
  unfold leftN
  obtain ⟨l1, l2, e⟩ := List.append_of_mem h1
  rw [e, List.filter_append, List.filter_append, List.length_append, List.length_append]
  have hx : (!all.contains x) = true := by simpa using h2
  have hx' : ¬ (!(x :: all).contains x) = true := by simp
  rw [List.filter_cons_of_pos (p := fun x => !all.contains x) hx, List.filter_cons_of_neg (p := fun y => !(x :: all).contains y) hx']
  have : ∀ l : List Int, (l.filter fun y => !(x :: all).contains y).length ≤ (l.filter fun y => !all.contains y).length := fun l => by
    induction l with
    | nil => simp
    | cons y l ih =>
      rw [List.filter_cons, List.filter_cons]
      split
      · rename_i hy
        have : (!all.contains y) = true := by
          simp at hy ⊢; exact hy.2
        rw [if_pos this, List.length_cons, List.length_cons]
        omega
      · split
        · rw [List.length_cons]; omega
        · exact ih
  have h1 := this l1
  have h2 := this l2
  simp only [List.length_cons]
  omega
theorem closeF_spec {F : List (List Int)} {A : List Int} : ∀ (n : Nat) (all : List Int), leftN F all ≤ n → (∀ x ∈ A, x ∈ all) → (∀ x ∈ all, Der F A x) →
    (∀ x ∈ A, x ∈ closeF F n all) ∧ (∀ x ∈ closeF F n all, Der F A x) ∧ Unit (· ∈ closeF F n all) F
  | 0, all, hn, hA, hD => by
    refine ⟨hA, hD, fires_none (all := all) ?_⟩
    cases h : fires F all with
    | none => rfl
    | some x =>
      obtain ⟨C, hC, hx, hxa, _⟩ := fires_some h
      have := leftN_lt (List.mem_flatten.2 ⟨C, hC, hx⟩) hxa
      omega
  | n + 1, all, hn, hA, hD => by
    cases h : fires F all with
    | none =>
      have e : closeF F (n + 1) all = all := by unfold closeF; rw [h]
      rw [e]
      exact ⟨hA, hD, fires_none h⟩
    | some x =>
      have e : closeF F (n + 1) all = closeF F n (x :: all) := by conv => lhs; unfold closeF; rw [h]
      rw [e]
      obtain ⟨C, hC, hx, hxa, ho⟩ := fires_some h
      have := leftN_lt (List.mem_flatten.2 ⟨C, hC, hx⟩) hxa
      refine closeF_spec n _ (by omega) (fun y hy => by simp [hA y hy]) fun y hy => ?_
      rcases List.mem_cons.1 hy with rfl | hy
      · exact .unit hC hx fun z hz hne => hD _ (ho z hz hne)
      · exact hD y hy
theorem cnfB_iff (F : List (List Int)) (A : List Int) : cnfB F A = true ↔ Cnf F A := by
  have h := closeF_spec (F := F) (A := A) F.flatten.length A (List.length_filter_le _ _) (fun x h => h) (fun x h => .asm h)
  rw [cnf_closed h.1 h.2.1 h.2.2]
  unfold cnfB
  simp only [Bool.or_eq_true, List.any_eq_true, List.contains_iff_mem]
def neg (c : List Int) : List Int := c.map fun x => -x
theorem mem_neg {c : List Int} {x : Int} : x ∈ neg c ↔ -x ∈ c := by
  unfold neg
  rw [List.mem_map]
  constructor
  · rintro ⟨y, hy, rfl⟩; rwa [Int.neg_neg]
  · intro h; exact ⟨-x, h, Int.neg_neg x⟩
/-- a clause follows from clauses by unit propagation -/
def folB (F : List (List Int)) (c : List Int) : Bool := cnfB F (neg c)
theorem folB_iff {F : List (List Int)} {c : List Int} : folB F c = true ↔ Cnf F (neg c) := cnfB_iff _ _
theorem folB_mono {F F' : List (List Int)} (hF : Sub F F') {c : List Int} (h : folB F c = true) : folB F' c = true := folB_iff.2 ((folB_iff.1 h).mono hF fun x h => h)
theorem folB_congr {F F' : List (List Int)} (hF : Sub F F') (hF' : Sub F' F) (c : List Int) : folB F c = folB F' c := Bool.eq_iff_iff.2 ⟨folB_mono hF, folB_mono hF'⟩
/-! ### Checking -/
/-- the first clause that does not follow -/
def badAt : List (List Int) → List (List Int) → Option Nat
  | _, [] => none
  | F, c :: r => if folB F c then (badAt (F ++ [c]) r).map (· + 1) else some 0
def endsB (p : List (List Int)) : Bool := p.getLast? == some []
/-- the answer of a check: a number, and an error's number -/
def chkN (F p : List (List Int)) : Nat := (badAt F p).getD p.length
def chkE (F p : List (List Int)) : Int := if badAt F p = none ∧ endsB p = true then 0 else 16
/-- accepted -/
def accB (F p : List (List Int)) : Bool := (badAt F p).isNone && endsB p
theorem chkE_acc {F p : List (List Int)} : chkE F p = if accB F p then 0 else 16 := by
  unfold chkE accB
  cases badAt F p <;> cases endsB p <;> simp
def allF : List (List Int) → List (List Int) → Bool
  | _, [] => true
  | F, c :: r => folB F c && allF (F ++ [c]) r
theorem badAt_none : ∀ {p F : List (List Int)}, (badAt F p).isNone = allF F p
  | [], F => rfl
  | c :: r, F => by
    unfold badAt allF
    cases folB F c with
    | false => simp
    | true => simp [badAt_none (p := r) (F := F ++ [c])]
theorem accB_iff {F p : List (List Int)} : accB F p = true ↔ allF F p = true ∧ p.getLast? = some [] := by
  unfold accB endsB
  rw [badAt_none, Bool.and_eq_true, beq_iff_eq]
theorem allF_append : ∀ (p q F : List (List Int)), allF F (p ++ q) = (allF F p && allF (F ++ p) q)
  | [], q, F => by simp [allF]
  | c :: p, q, F => by
    simp only [List.cons_append, allF]
    rw [allF_append p q, Bool.and_assoc]
    simp
theorem Sub.app {F F' G : List (List Int)} (h : Sub F F') : Sub (F ++ G) (F' ++ G) := fun C hC => by
  rcases List.mem_append.1 hC with hC | hC
  · obtain ⟨C', h1, h2⟩ := h C hC
    exact ⟨C', by simp [h1], h2⟩
  · exact ⟨C, by simp [hC], fun _ => Iff.rfl⟩
theorem allF_mono : ∀ {p F F' : List (List Int)}, Sub F F' → allF F p = true → allF F' p = true
  | [], F, F', hF, h => rfl
  | c :: p, F, F', hF, h => by
    unfold allF at h ⊢
    rw [Bool.and_eq_true] at h ⊢
    exact ⟨folB_mono hF h.1, allF_mono hF.app h.2⟩
theorem accB_mono {p F F' : List (List Int)} (hF : Sub F F') (h : accB F p = true) : accB F' p = true := by
  rw [accB_iff] at h ⊢
  exact ⟨allF_mono hF h.1, h.2⟩
theorem accB_num {F p : List (List Int)} (h : accB F p = true) : chkN F p = p.length ∧ chkE F p = 0 := by
  unfold accB at h
  rw [Bool.and_eq_true, Option.isNone_iff_eq_none] at h
  unfold chkN chkE
  rw [h.1]
  exact ⟨rfl, by rw [if_pos ⟨rfl, h.2⟩]⟩
theorem accB_no {F p : List (List Int)} (h : accB F p = false) : chkE F p = 16 := by rw [chkE_acc, h]; rfl
theorem badAt_lt : ∀ {p F : List (List Int)} {i : Nat}, badAt F p = some i → i < p.length
  | [], F, i, h => by cases h
  | c :: r, F, i, h => by
    unfold badAt at h
    split at h
    · obtain ⟨j, hj, rfl⟩ := Option.map_eq_some_iff.1 h
      have := badAt_lt hj
      simp; omega
    · obtain rfl := Option.some.inj h
      simp
theorem chkN_le (F p : List (List Int)) : chkN F p ≤ p.length := by
  unfold chkN
  cases h : badAt F p with
  | none => exact Nat.le_refl _
  | some i => have := badAt_lt h; simp; omega
/-! ### A clause more, a clause less -/
/-- a clause that follows may be put in -/
theorem accB_put {F p1 p2 : List (List Int)} {c : List Int} (hc : allF F (p1 ++ [c]) = true) (h : accB F (p1 ++ p2) = true) (h2 : p2 ≠ []) : accB F (p1 ++ c :: p2) = true := by
  rw [accB_iff] at h ⊢
  rw [allF_append, Bool.and_eq_true] at h hc ⊢
  refine ⟨⟨hc.1, ?_⟩, ?_⟩
  · unfold allF
    rw [Bool.and_eq_true]
    have h3 := hc.2
    unfold allF at h3
    rw [Bool.and_eq_true] at h3
    exact ⟨h3.1, allF_mono (Sub.of_mem fun C hC => by simp at hC ⊢; exact hC.elim .inl fun h => .inr (.inl h)) h.1.2⟩
  · have := h.2
    rw [List.getLast?_append] at this ⊢
    cases p2 with
    | nil => exact absurd rfl h2
    | cons z p2 => simpa [List.getLast?_cons_cons] using this
/-- the refutation with one clause left out, if it is still accepted -/
def trimStep (F : List (List Int)) (out : List (List Int)) (i : Nat) : List (List Int) := if accB F (out.eraseIdx i) then out.eraseIdx i else out
def trimF (F p : List (List Int)) : List (List Int) := (List.range (p.length - 1)).reverse.foldl (trimStep F) p
/-- what holds once the places from i on were tried -/
def TrimI (F : List (List Int)) (out : List (List Int)) (i : Nat) : Prop := accB F out = true ∧ i + 1 ≤ out.length ∧ ∀ j, i ≤ j → j + 1 < out.length → accB F (out.eraseIdx j) = false
theorem TrimI.step {F out : List (List Int)} {i : Nat} (h : TrimI F out (i + 1)) : TrimI F (trimStep F out i) i := by
  obtain ⟨h1, h2, h3⟩ := h
  unfold trimStep
  cases ha : accB F (out.eraseIdx i) with
  | false =>
    refine ⟨h1, by simp; omega, fun j hj hl => ?_⟩
    by_cases e : j = i
    · rw [e]; exact ha
    · exact h3 j (by omega) (by simpa using hl)
  | true =>
    refine ⟨ha, ?_, fun j hj hl => ?_⟩
    · simp only [if_true]; rw [List.length_eraseIdx]; split <;> omega
    · simp only [if_true] at hl ⊢
      rw [List.length_eraseIdx, if_pos (by omega)] at hl
      have hb := h3 (j + 1) (by omega) (by omega)
      cases hx : accB F ((out.eraseIdx i).eraseIdx j) with
      | false => rfl
      | true =>
        exfalso
        have hi : i < out.length := by omega
        have e0 : out = out.take i ++ out[i] :: out.drop (i + 1) := by rw [List.getElem_cons_drop, List.take_append_drop]
        have e1 : (out.eraseIdx i).eraseIdx j = out.take i ++ (out.drop (i + 1)).eraseIdx (j - i) := by
          rw [List.eraseIdx_eq_take_drop_succ (l := out) (i := i), List.eraseIdx_append_of_length_le (by simp; omega)]
          congr 2
          simp
          omega
        have e2 : out.eraseIdx (j + 1) = out.take i ++ out[i] :: (out.drop (i + 1)).eraseIdx (j - i) := by
          conv => lhs; rw [e0]
          rw [List.eraseIdx_append_of_length_le (by simp; omega)]
          have : j + 1 - (out.take i).length = (j - i) + 1 := by simp; omega
          rw [this, List.eraseIdx_cons_succ]
        rw [e1] at hx
        have := accB_put (c := out[i]) (by
          have := (accB_iff.1 h1).1
          rw [e0, show out.take i ++ out[i] :: out.drop (i + 1) = (out.take i ++ [out[i]]) ++ out.drop (i + 1) by simp, allF_append, Bool.and_eq_true] at this
          exact this.1) hx (fun e => by
          have := congrArg List.length e
          rw [List.length_eraseIdx, if_pos (by simp; omega)] at this
          simp at this
          omega)
        rw [← e2, hb] at this
        cases this
theorem TrimI.fold {F : List (List Int)} : ∀ {i : Nat} {out : List (List Int)}, TrimI F out i → TrimI F ((List.range i).reverse.foldl (trimStep F) out) 0
  | 0, out, h => h
  | i + 1, out, h => by
    rw [List.range_succ, List.reverse_append]
    exact TrimI.fold h.step
theorem acc_pos {F p : List (List Int)} (h : accB F p = true) : 1 ≤ p.length := by
  have := (accB_iff.1 h).2
  cases p with
  | nil => cases this
  | cons x l => simp
theorem trim_spec {F p : List (List Int)} (h : accB F p = true) : TrimI F (trimF F p) 0 := by
  have := acc_pos h
  exact TrimI.fold ⟨h, by omega, fun j h1 h2 => by omega⟩
theorem trim_fix {F t : List (List Int)} (h : ∀ j, j + 1 < t.length → accB F (t.eraseIdx j) = false) : trimF F t = t := by
  have : ∀ i, i ≤ t.length - 1 → (List.range i).reverse.foldl (trimStep F) t = t := fun i => by
    induction i with
    | zero => intro _; rfl
    | succ i ih =>
      intro hi
      rw [List.range_succ, List.reverse_append]
      show (List.range i).reverse.foldl (trimStep F) (trimStep F t i) = t
      rw [show trimStep F t i = t from by unfold trimStep; rw [h i (by omega)]; rfl]
      exact ih (by omega)
  exact this _ (Nat.le_refl _)
theorem trim_sub {F : List (List Int)} : ∀ {is : List Nat} {p : List (List Int)} {c : List Int}, c ∈ is.foldl (trimStep F) p → c ∈ p
  | [], p, c, h => h
  | i :: is, p, c, h => by
    have := trim_sub (is := is) h
    unfold trimStep at this
    split at this
    · exact List.mem_of_mem_eraseIdx this
    · exact this
/-! ### The clauses that are used -/
def coreStep (p : List (List Int)) (s : List (List Int) × List Nat) (i : Nat) : List (List Int) × List Nat := if accB (s.1.eraseIdx i) p then (s.1.eraseIdx i, s.2) else (s.1, i :: s.2)
def coreS (F p : List (List Int)) : List (List Int) × List Nat := (List.range F.length).reverse.foldl (coreStep p) (F, [])
def coreF (F p : List (List Int)) : List Nat := (coreS F p).2
structure CoreI (F p : List (List Int)) (s : List (List Int) × List Nat) (i : Nat) : Prop where
  acc : accB s.1 p = true
  left : s.1 = F.take i ++ s.2.filterMap (F[·]?)
  asc : s.2.Pairwise (· < ·)
  low : ∀ k ∈ s.2, i ≤ k ∧ k < F.length
  min : ∀ j, i ≤ j → j < s.1.length → accB (s.1.eraseIdx j) p = false
theorem CoreI.step {F p : List (List Int)} {s : List (List Int) × List Nat} {i : Nat} (h : CoreI F p s (i + 1)) (hi : i < F.length) : CoreI F p (coreStep p s i) i := by
  obtain ⟨h1, h2, h3, h4, h5⟩ := h
  have hlen : (F.take (i + 1)).length = i + 1 := by simp; omega
  have hil : i < s.1.length := by rw [h2, List.length_append]; omega
  have e0 : s.1.eraseIdx i = F.take i ++ s.2.filterMap (F[·]?) := by
    rw [h2, List.eraseIdx_append_of_lt_length (by omega)]
    congr 1
    rw [List.eraseIdx_eq_take_drop_succ, List.take_take, List.drop_take]
    simp
  unfold coreStep
  cases ha : accB (s.1.eraseIdx i) p with
  | true =>
    refine ⟨by simpa using ha, by simpa using e0, by simpa using h3, fun k hk => ?_, fun j hj hl => ?_⟩
    · have := h4 k (by simpa using hk); exact ⟨by omega, this.2⟩
    · simp only [if_true] at hl ⊢
      rw [List.length_eraseIdx, if_pos hil] at hl
      cases hx : accB ((s.1.eraseIdx i).eraseIdx j) p with
      | false => rfl
      | true =>
        have hb := h5 (j + 1) (by omega) (by omega)
        have hs : Sub ((s.1.eraseIdx i).eraseIdx j) (s.1.eraseIdx (j + 1)) := Sub.of_mem fun C hC => by
          have e1 : (s.1.eraseIdx i).eraseIdx j = s.1.take i ++ (s.1.drop (i + 1)).eraseIdx (j - i) := by
            rw [List.eraseIdx_eq_take_drop_succ (l := s.1) (i := i), List.eraseIdx_append_of_length_le (by simp; omega)]
            congr 2
            simp
            omega
          have e2 : s.1.eraseIdx (j + 1) = s.1.take i ++ s.1[i] :: (s.1.drop (i + 1)).eraseIdx (j - i) := by
            conv => lhs; rw [show s.1 = s.1.take i ++ s.1[i] :: s.1.drop (i + 1) by rw [List.getElem_cons_drop, List.take_append_drop]]
            rw [List.eraseIdx_append_of_length_le (by simp; omega)]
            have : j + 1 - (s.1.take i).length = (j - i) + 1 := by simp; omega
            rw [this, List.eraseIdx_cons_succ]
          rw [e1] at hC
          rw [e2]
          simp only [List.mem_append, List.mem_cons] at hC ⊢
          exact hC.elim .inl fun h => .inr (.inr h)
        rw [accB_mono hs hx] at hb
        cases hb
  | false =>
    refine ⟨by simpa using h1, ?_, ?_, fun k hk => ?_, fun j hj hl => ?_⟩
    · simp only [Bool.false_eq_true, if_false]
      have e : F.take (i + 1) = F.take i ++ [F[i]] := by rw [List.take_add_one, List.getElem?_eq_getElem hi]; rfl
      rw [h2, List.filterMap_cons, List.getElem?_eq_getElem hi, e, List.append_assoc]
      rfl
    · simp only [Bool.false_eq_true, if_false, List.pairwise_cons]
      exact ⟨fun k hk => by have := (h4 k hk).1; omega, h3⟩
    · simp only [Bool.false_eq_true, if_false, List.mem_cons] at hk
      rcases hk with rfl | hk
      · exact ⟨Nat.le_refl _, hi⟩
      · have := h4 k hk; exact ⟨by omega, this.2⟩
    · simp only [Bool.false_eq_true, if_false] at hl ⊢
      by_cases e : j = i
      · rw [e]; exact ha
      · exact h5 j (by omega) hl
theorem CoreI.fold {F p : List (List Int)} : ∀ {i : Nat} {s : List (List Int) × List Nat}, i ≤ F.length → CoreI F p s i → CoreI F p ((List.range i).reverse.foldl (coreStep p) s) 0
  | 0, s, hi, h => h
  | i + 1, s, hi, h => by
    rw [List.range_succ, List.reverse_append]
    exact CoreI.fold (by omega) (h.step (by omega))
theorem core_spec {F p : List (List Int)} (h : accB F p = true) : CoreI F p (coreS F p) 0 := CoreI.fold (Nat.le_refl _) ⟨h, by simp, List.Pairwise.nil, by simp, fun j h1 h2 => by simp at h2; omega⟩
end Go.Proofs.Rp
end
