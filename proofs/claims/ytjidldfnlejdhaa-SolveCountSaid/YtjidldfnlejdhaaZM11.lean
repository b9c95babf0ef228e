/- Own texts of this claim, part 12: no condition. -/
import Derived.Test.YtjidldfnlejdhaaZM10
set_option linter.unusedVariables false
set_option linter.unusedSimpArgs false
section
/- Two watched literals: what one visit of a list of clauses does, and what stays true. Nothing of a program. -/
namespace Go.Proofs.Sv
set_option linter.unusedVariables false
set_option linter.unusedSimpArgs false
/-- two places of a list exchanged -/
def swp (c : List Int) (i j : Nat) : List Int := (c.set i (c.getD j 0)).set j (c.getD i 0)
theorem swp_perm {c : List Int} {i j : Nat} (hi : i < c.length) (hj : j < c.length) : (swp c i j).Perm c := by
  have h := Array.swap_perm (xs := c.toArray) (i := i) (j := j) (by simpa using hi) (by simpa using hj)
  have h2 := h.toList
  rw [Array.toList_swap] at h2
  simpa [swp, hi, hj] using h2
theorem swp_length (c : List Int) (i j : Nat) : (swp c i j).length = c.length := by simp [swp]
theorem swp_get {c : List Int} {i j k : Nat} (hi : i < c.length) (hj : j < c.length) : (swp c i j)[k]? = if k = j then c[i]? else if k = i then c[j]? else c[k]? := by
  unfold swp
  rw [List.getElem?_set, List.getElem?_set]
  simp only [List.length_set]
  by_cases h1 : j = k
  · subst h1; simp [hj, hi]
  · by_cases h2 : i = k
    · subst h2
      have : ¬ i = j := fun e => h1 e.symm
      simp [h1, this, hi, hj]
    · have a : ¬ k = j := fun e => h1 e.symm
      have b : ¬ k = i := fun e => h2 e.symm
      simp [h1, h2, a, b]
structure St where
  cl : List (List Int)
  wt : Int → List Nat
  tr : List Int
  kp : List Nat
def upd (f : Int → List Nat) (y : Int) (l : List Nat) : Int → List Nat := fun z => if z = y then l else f z
/-- the clause k of the list of x, x laid second -/
def second (x : Int) (c : List Int) : List Int := if c.getD 0 0 = x then swp c 0 1 else c
/-- the first place behind the second whose literal is not false -/
def other (tr : List Int) (c : List Int) : Option Nat := (c.drop 2).findIdx? fun y => !decide (-y ∈ tr)
def vstep (x : Int) (s : St) (k : Nat) : St × Bool :=
  let c := second x (s.cl.getD k [])
  if c.getD 0 0 ∈ s.tr then (⟨s.cl.set k c, s.wt, s.tr, s.kp ++ [k]⟩, true)
  else match other s.tr c with
    | some o => (⟨s.cl.set k (swp c 1 (o + 2)), upd s.wt (c.getD (o + 2) 0) (s.wt (c.getD (o + 2) 0) ++ [k]), s.tr, s.kp⟩, true)
    | none => if -(c.getD 0 0) ∈ s.tr then (⟨s.cl.set k c, s.wt, s.tr, s.kp ++ [k]⟩, false)
      else (⟨s.cl.set k c, s.wt, s.tr ++ [c.getD 0 0], s.kp ++ [k]⟩, true)
def ClOk (V : Nat) (cl : List (List Int)) : Prop := ∀ c ∈ cl, 2 ≤ c.length ∧ c.Nodup ∧ ∀ x ∈ c, x ≠ 0 ∧ x.natAbs ≤ V
def TrOk (V : Nat) (tr : List Int) : Prop := (∀ x ∈ tr, x ≠ 0 ∧ x.natAbs ≤ V) ∧ (tr.map Int.natAbs).Nodup
def WtOk (cl : List (List Int)) (wt : Int → List Nat) : Prop := ∀ x, (wt x).Nodup ∧ ∀ k, k ∈ wt x ↔ ∃ c, cl[k]? = some c ∧ (c[0]? = some x ∨ c[1]? = some x)
def Wat (cl : List (List Int)) (T U : List Int) : Prop := ∀ c ∈ cl, ∀ a b, c[0]? = some a → c[1]? = some b → (-a ∈ T → b ∈ U) ∧ (-b ∈ T → a ∈ U)
def Perms (cl0 cl : List (List Int)) : Prop := cl.length = cl0.length ∧ ∀ (k : Nat) c c0, cl[k]? = some c → cl0[k]? = some c0 → c.Perm c0
/-- what is granted is closed under clauses all of whose other literals are false -/
def Unit (G : Int → Prop) (cl : List (List Int)) : Prop := ∀ c ∈ cl, ∀ y ∈ c, (∀ z ∈ c, z ≠ y → G (-z)) → G y
theorem Perms.refl (cl : List (List Int)) : Perms cl cl := ⟨rfl, fun k c c0 h1 h2 => by rw [h1] at h2; cases h2; exact List.Perm.refl _⟩
theorem Perms.set {cl0 cl : List (List Int)} (h : Perms cl0 cl) {k : Nat} {c c' : List Int} (hc : cl[k]? = some c) (hp : c'.Perm c) : Perms cl0 (cl.set k c') := by
  refine ⟨by simp [h.1], fun j d d0 h1 h2 => ?_⟩
  rw [List.getElem?_set] at h1
  by_cases hj : k = j
  · subst hj
    have hk := (List.getElem?_eq_some_iff.1 hc).1
    simp [hk] at h1
    subst h1
    exact hp.trans (h.2 k c d0 hc h2)
  · rw [if_neg hj] at h1
    exact h.2 j d d0 h1 h2
theorem Perms.mem {cl0 cl : List (List Int)} (h : Perms cl0 cl) {c : List Int} (hc : c ∈ cl) : ∃ c0 ∈ cl0, c.Perm c0 := by
  obtain ⟨k, hk, rfl⟩ := List.getElem_of_mem hc
  have hk0 : k < cl0.length := by rw [← h.1]; exact hk
  exact ⟨cl0[k], List.getElem_mem hk0, h.2 k _ _ (List.getElem?_eq_getElem hk) (List.getElem?_eq_getElem hk0)⟩
theorem Perms.mem' {cl0 cl : List (List Int)} (h : Perms cl0 cl) {c : List Int} (hc : c ∈ cl0) : ∃ c1 ∈ cl, c1.Perm c := by
  obtain ⟨k, hk, rfl⟩ := List.getElem_of_mem hc
  have hk0 : k < cl.length := by rw [h.1]; exact hk
  exact ⟨cl[k], List.getElem_mem hk0, h.2 k _ _ (List.getElem?_eq_getElem hk0) (List.getElem?_eq_getElem hk)⟩
theorem Unit.perm {G : Int → Prop} {cl0 cl : List (List Int)} (h : Perms cl0 cl) (hu : Unit G cl0) : Unit G cl := by
  intro c hc y hy hz
  obtain ⟨c0, hc0, hp⟩ := h.mem hc
  exact hu c0 hc0 y (hp.mem_iff.1 hy) fun z hz0 hne => hz z (hp.mem_iff.2 hz0) hne
theorem TrOk.not_both {V : Nat} {tr : List Int} (h : TrOk V tr) {x : Int} (hx : x ∈ tr) : -x ∉ tr := by
  intro hn
  obtain ⟨i, hi, e1⟩ := List.getElem_of_mem hx
  obtain ⟨j, hj, e2⟩ := List.getElem_of_mem hn
  have h0 := (h.1 x hx).1
  have hij : i ≠ j := by
    rintro rfl
    rw [e1] at e2; omega
  have hnd := h.2
  have a1 : (tr.map Int.natAbs)[i]'(by simpa using hi) = (tr.map Int.natAbs)[j]'(by simpa using hj) := by
    simp [e1, e2]
  exact hij ((List.getElem_inj hnd).1 a1)
/-- what holds while a list is visited; T: the literals that were visited before, Cs: the beginnings of the trail that are gone back to -/
structure VI (V : Nat) (G : Int → Prop) (cl0 : List (List Int)) (Cs : List (List Int)) (T tr0 : List Int) (x : Int) (s : St) (rest : List Nat) : Prop where
  cl : ClOk V s.cl
  tr : TrOk V s.tr
  wt : WtOk s.cl (upd s.wt x (s.kp ++ rest))
  wat : Wat s.cl T s.tr
  cks : ∀ P ∈ Cs, Wat s.cl P P
  pre : tr0 <+: s.tr
  kept : ∀ k ∈ s.kp, ∀ c a b, s.cl[k]? = some c → c[0]? = some a → c[1]? = some b → (a = x → b ∈ s.tr) ∧ (b = x → a ∈ s.tr)
  perm : Perms cl0 s.cl
  g : ∀ y ∈ s.tr, G y
/-- a clause all of whose literals are false was found -/
structure VC (V : Nat) (G : Int → Prop) (cl0 : List (List Int)) (Cs : List (List Int)) (tr0 : List Int) (x : Int) (s : St) (rest : List Nat) : Prop where
  cl : ClOk V s.cl
  tr : TrOk V s.tr
  wt : WtOk s.cl (upd s.wt x (s.kp ++ rest))
  cks : ∀ P ∈ Cs, Wat s.cl P P
  pre : tr0 <+: s.tr
  perm : Perms cl0 s.cl
  g : ∀ y ∈ s.tr, G y
  bad : ∃ c ∈ s.cl, ∀ z ∈ c, -z ∈ s.tr
theorem WtOk.set_same {cl : List (List Int)} {wt : Int → List Nat} (h : WtOk cl wt) {k : Nat} {c c' : List Int} (hc : cl[k]? = some c) (hs : ∀ y, (c'[0]? = some y ∨ c'[1]? = some y) ↔ (c[0]? = some y ∨ c[1]? = some y)) : WtOk (cl.set k c') wt := by
  intro y
  refine ⟨(h y).1, fun j => ?_⟩
  rw [(h y).2 j, List.getElem?_set]
  have hk := (List.getElem?_eq_some_iff.1 hc).1
  by_cases hj : k = j
  · subst hj
    simp only [if_true, hk, hc, Option.some.injEq]
    constructor
    · rintro ⟨d, rfl, h1⟩; exact ⟨c', rfl, (hs y).2 h1⟩
    · rintro ⟨d, rfl, h1⟩; exact ⟨c, rfl, (hs y).1 h1⟩
  · rw [if_neg hj]
theorem Wat.set {cl : List (List Int)} {T U : List Int} (h : Wat cl T U) {k : Nat} {c' : List Int} (hc : ∀ a b, c'[0]? = some a → c'[1]? = some b → (-a ∈ T → b ∈ U) ∧ (-b ∈ T → a ∈ U)) : Wat (cl.set k c') T U := by
  intro c hm
  rcases List.mem_or_eq_of_mem_set hm with h1 | rfl
  · exact h c h1
  · exact hc
theorem Wat.grow {cl : List (List Int)} {T U U' : List Int} (h : Wat cl T U) (hu : ∀ x ∈ U, x ∈ U') : Wat cl T U' := fun c hm a b h0 h1 => ⟨fun e => hu _ ((h c hm a b h0 h1).1 e), fun e => hu _ ((h c hm a b h0 h1).2 e)⟩
theorem ClOk.set {V : Nat} {cl : List (List Int)} (h : ClOk V cl) {k : Nat} {c c' : List Int} (hc : cl[k]? = some c) (hp : c'.Perm c) : ClOk V (cl.set k c') := by
  intro d hm
  rcases List.mem_or_eq_of_mem_set hm with h1 | rfl
  · exact h d h1
  · obtain ⟨h1, h2, h3⟩ := h c (List.mem_of_getElem? hc)
    exact ⟨by rw [hp.length_eq]; exact h1, hp.nodup_iff.2 h2, fun x hx => h3 x (hp.mem_iff.1 hx)⟩
/-- the clause as it lies behind the exchange: x is second -/
theorem second_spec {x : Int} {c : List Int} (h2 : 2 ≤ c.length) (hx : c[0]? = some x ∨ c[1]? = some x) (hn : c.Nodup) :
    (second x c).Perm c ∧ (second x c)[1]? = some x ∧ (∀ y, ((second x c)[0]? = some y ∨ (second x c)[1]? = some y) ↔ (c[0]? = some y ∨ c[1]? = some y)) := by
  unfold second
  by_cases h : c.getD 0 0 = x
  · rw [if_pos h]
    have h0 : c[0]? = some x := by
      rw [List.getElem?_eq_getElem (by omega)]
      rw [List.getD_eq_getElem?_getD, List.getElem?_eq_getElem (by omega)] at h
      simpa using h
    refine ⟨swp_perm (by omega) (by omega), ?_, fun y => ?_⟩
    · rw [swp_get (by omega) (by omega), if_pos rfl, h0]
    · rw [swp_get (by omega) (by omega), swp_get (by omega) (by omega)]
      simp only [show ¬ (0 : Nat) = 1 by omega, if_false, if_true]
      exact Or.comm
  · rw [if_neg h]
    refine ⟨List.Perm.refl _, ?_, fun y => Iff.rfl⟩
    rcases hx with hx | hx
    · exfalso; apply h; rw [List.getD_eq_getElem?_getD, hx]; rfl
    · exact hx
theorem second_id {x : Int} {c : List Int} (h : c.getD 0 0 ≠ x) : second x c = c := if_neg h
theorem second_sw {x : Int} {c : List Int} (h : c.getD 0 0 = x) : second x c = swp c 0 1 := if_pos h
theorem other_some {tr c : List Int} {o : Nat} (h : other tr c = some o) : ∃ y, c[o + 2]? = some y ∧ -y ∉ tr := by
  unfold other at h
  rw [List.findIdx?_eq_some_iff_getElem] at h
  obtain ⟨h1, h2, _⟩ := h
  refine ⟨(c.drop 2)[o], ?_, by simpa using h2⟩
  rw [List.getElem_drop, Nat.add_comm o 2, List.getElem?_eq_getElem]
theorem other_none {tr c : List Int} (h : other tr c = none) : ∀ i y, 2 ≤ i → c[i]? = some y → -y ∈ tr := by
  unfold other at h
  rw [List.findIdx?_eq_none_iff] at h
  intro i y hi hy
  have : y ∈ c.drop 2 := by
    have h2 : (c.drop 2)[i - 2]? = some y := by rw [List.getElem?_drop]; rw [show 2 + (i - 2) = i by omega]; exact hy
    exact List.mem_of_getElem? h2
  simpa using h y this

theorem second_two {x : Int} {c : List Int} (h2 : 2 ≤ c.length) {a b : Int} (h0 : (second x c)[0]? = some a) (h1 : (second x c)[1]? = some b) : (c[0]? = some a ∧ c[1]? = some b) ∨ (c[0]? = some b ∧ c[1]? = some a) := by
  unfold second at h0 h1
  by_cases h : c.getD 0 0 = x
  · rw [if_pos h] at h0 h1
    rw [swp_get (by omega) (by omega)] at h0 h1
    simp at h0 h1
    exact .inr ⟨h1, h0⟩
  · rw [if_neg h] at h0 h1
    exact .inl ⟨h0, h1⟩
theorem Wat.second {cl : List (List Int)} {T U : List Int} (h : Wat cl T U) {x : Int} {k : Nat} {c : List Int} (hc : cl[k]? = some c) (h2 : 2 ≤ c.length) : Wat (cl.set k (second x c)) T U := by
  refine h.set fun a b h0 h1 => ?_
  have := h c (List.mem_of_getElem? hc)
  rcases second_two h2 h0 h1 with ⟨e0, e1⟩ | ⟨e0, e1⟩
  · exact this a b e0 e1
  · exact (this b a e0 e1).symm
theorem getD_of {cl : List (List Int)} {k : Nat} {c : List Int} (hc : cl[k]? = some c) : cl.getD k [] = c := by rw [List.getD_eq_getElem?_getD, hc]; rfl
theorem vstep_true {x : Int} {s : St} {k : Nat} {c : List Int} (hc : s.cl[k]? = some c) (h : (second x c).getD 0 0 ∈ s.tr) : vstep x s k = (⟨s.cl.set k (second x c), s.wt, s.tr, s.kp ++ [k]⟩, true) := by
  unfold vstep; simp only [getD_of hc]; rw [if_pos h]
theorem vstep_move {x : Int} {s : St} {k o : Nat} {c : List Int} (hc : s.cl[k]? = some c) (h : (second x c).getD 0 0 ∉ s.tr) (ho : other s.tr (second x c) = some o) :
    vstep x s k = (⟨s.cl.set k (swp (second x c) 1 (o + 2)), upd s.wt ((second x c).getD (o + 2) 0) (s.wt ((second x c).getD (o + 2) 0) ++ [k]), s.tr, s.kp⟩, true) := by
  unfold vstep; simp only [getD_of hc]; rw [if_neg h, ho]
theorem vstep_conf {x : Int} {s : St} {k : Nat} {c : List Int} (hc : s.cl[k]? = some c) (h : (second x c).getD 0 0 ∉ s.tr) (ho : other s.tr (second x c) = none) (hf : -(second x c).getD 0 0 ∈ s.tr) :
    vstep x s k = (⟨s.cl.set k (second x c), s.wt, s.tr, s.kp ++ [k]⟩, false) := by
  unfold vstep; simp only [getD_of hc]; rw [if_neg h, ho]; simp only; rw [if_pos hf]
theorem vstep_unit {x : Int} {s : St} {k : Nat} {c : List Int} (hc : s.cl[k]? = some c) (h : (second x c).getD 0 0 ∉ s.tr) (ho : other s.tr (second x c) = none) (hf : -(second x c).getD 0 0 ∉ s.tr) :
    vstep x s k = (⟨s.cl.set k (second x c), s.wt, s.tr ++ [(second x c).getD 0 0], s.kp ++ [k]⟩, true) := by
  unfold vstep; simp only [getD_of hc]; rw [if_neg h, ho]; simp only; rw [if_neg hf]
section
variable {V : Nat} {G : Int → Prop} {cl0 Cs : List (List Int)} {T tr0 : List Int} {x : Int} {s : St} {k : Nat} {rest : List Nat}
/-- the clause of a number of the list -/
theorem VI.here (h : VI V G cl0 Cs T tr0 x s (k :: rest)) : ∃ c, s.cl[k]? = some c ∧ (c[0]? = some x ∨ c[1]? = some x) ∧ 2 ≤ c.length ∧ c.Nodup := by
  have := ((h.wt x).2 k).1 (by simp [upd])
  obtain ⟨c, hc, hx⟩ := this
  obtain ⟨h1, h2, _⟩ := h.cl c (List.mem_of_getElem? hc)
  exact ⟨c, hc, hx, h1, h2⟩
theorem VI.second (h : VI V G cl0 Cs T tr0 x s (k :: rest)) {c : List Int} (hc : s.cl[k]? = some c) : VI V G cl0 Cs T tr0 x ⟨s.cl.set k (second x c), s.wt, s.tr, s.kp⟩ (k :: rest) := by
  obtain ⟨c', hc', hx, h2, hn⟩ := h.here
  rw [hc] at hc'
  cases hc'
  obtain ⟨hp, h1, hs⟩ := second_spec h2 hx hn
  refine ⟨h.cl.set hc hp, h.tr, h.wt.set_same hc hs, h.wat.second hc h2, fun P hP => (h.cks P hP).second hc h2, h.pre, ?_, h.perm.set hc hp, h.g⟩
  intro j hj d a b hd h0 hd1
  have hne : k ≠ j := by
    rintro rfl
    have := (h.wt x).1
    simp only [upd, if_true] at this
    rw [List.nodup_append] at this
    exact this.2.2 k hj k (by simp) rfl
  rw [List.getElem?_set_ne hne] at hd
  exact h.kept j hj d a b hd h0 hd1
theorem vstep_inv (h : VI V G cl0 Cs T tr0 x s (k :: rest)) (hx : -x ∈ tr0) (hT : ∀ y ∈ T, y ∈ tr0) (hCs : ∀ P ∈ Cs, ∀ y ∈ P, y ∈ tr0) (hG : Unit G cl0) :
    ((vstep x s k).2 = true → VI V G cl0 Cs T tr0 x (vstep x s k).1 rest) ∧ ((vstep x s k).2 = false → VC V G cl0 Cs tr0 x (vstep x s k).1 rest) := by
  obtain ⟨c0, hc0, hx0, h2, hn⟩ := h.here
  obtain ⟨hp, h1, hs⟩ := second_spec h2 hx0 hn
  have hI := h.second hc0
  unfold vstep
  have hgd : s.cl.getD k [] = c0 := by rw [List.getD_eq_getElem?_getD, hc0]; rfl
  rw [hgd]
  obtain ⟨c, hcd⟩ : ∃ c, Sv.second x c0 = c := ⟨_, rfl⟩
  have hk : k < s.cl.length := (List.getElem?_eq_some_iff.1 hc0).1
  obtain ⟨cl1, hcl1⟩ : ∃ l, s.cl.set k c = l := ⟨_, rfl⟩
  have hc : cl1[k]? = some c := by rw [← hcl1]; simp [hk]
  rw [hcd, hcl1] at hI
  rw [hcd] at hp h1 hs ⊢
  have hlen : 2 ≤ c.length := by rw [hp.length_eq]; exact h2
  have hnd : c.Nodup := hp.nodup_iff.2 hn
  have hset : ∀ d, s.cl.set k d = cl1.set k d := by intro d; rw [← hcl1, List.set_set]
  have hcs : s.cl.set k c = cl1 := hcl1
  simp only [hcs, hset]
  obtain ⟨a, ha⟩ : ∃ a, c[0]? = some a := ⟨_, List.getElem?_eq_getElem (by omega)⟩
  have hga : c.getD 0 0 = a := by rw [List.getD_eq_getElem?_getD, ha]; rfl
  rw [hga]
  have hax : a ≠ x := by
    rintro rfl
    obtain ⟨l1, e1⟩ := List.getElem?_eq_some_iff.1 ha
    obtain ⟨l2, e2⟩ := List.getElem?_eq_some_iff.1 h1
    have := (List.getElem_inj hnd).1 (e1.trans e2.symm)
    omega
  have hxt : -x ∈ s.tr := h.pre.subset hx
  have hxn : x ∉ s.tr := fun e => h.tr.not_both e hxt
  have hnd0 := (hI.wt x).1
  simp only [upd, if_true] at hnd0
  have hkk : k ∉ s.kp ∧ k ∉ rest ∧ (s.kp ++ rest).Nodup := by
    have hq : (k :: (s.kp ++ rest)).Nodup := (List.perm_middle.nodup_iff).1 hnd0
    rw [List.nodup_cons] at hq
    exact ⟨fun e => hq.1 (by simp [e]), fun e => hq.1 (by simp [e]), hq.2⟩
  have hcm : c ∈ cl1 := List.mem_of_getElem? hc
  by_cases hat : a ∈ s.tr
  · rw [if_pos hat]
    refine ⟨fun _ => ?_, fun e => by simp at e⟩
    refine ⟨hI.cl, hI.tr, by simpa using hI.wt, hI.wat, hI.cks, hI.pre, ?_, hI.perm, hI.g⟩
    intro j hj d p q hd h0 hd1
    rcases List.mem_append.1 hj with hj | hj
    · exact hI.kept j hj d p q hd h0 hd1
    · simp at hj
      subst hj
      rw [hc] at hd
      cases hd
      rw [ha] at h0
      rw [h1] at hd1
      cases h0; cases hd1
      exact ⟨fun e => absurd e hax, fun _ => hat⟩
  · rw [if_neg hat]
    cases ho : other s.tr c with
    | some o =>
      refine ⟨fun _ => ?_, fun e => by simp at e⟩
      obtain ⟨y, hy, hyt⟩ := other_some ho
      have hol : o + 2 < c.length := (List.getElem?_eq_some_iff.1 hy).1
      have hgy : c.getD (o + 2) 0 = y := by rw [List.getD_eq_getElem?_getD, hy]; rfl
      simp only [hgy]
      have inj : ∀ {i j : Nat} {v : Int}, c[i]? = some v → c[j]? = some v → i = j := by
        intro i j v e1 e2
        obtain ⟨_, f1⟩ := List.getElem?_eq_some_iff.1 e1
        obtain ⟨_, f2⟩ := List.getElem?_eq_some_iff.1 e2
        exact (List.getElem_inj hnd).1 (f1.trans f2.symm)
      have hyx : y ≠ x := by rintro rfl; have := inj hy h1; omega
      have hya : y ≠ a := by rintro rfl; have := inj hy ha; omega
      have c20 : (swp c 1 (o + 2))[0]? = some a := by rw [swp_get (by omega) hol, if_neg (by omega), if_neg (by omega), ha]
      have c21 : (swp c 1 (o + 2))[1]? = some y := by rw [swp_get (by omega) hol, if_neg (by omega), if_pos rfl, hy]
      have hpp : (swp c 1 (o + 2)).Perm c := swp_perm (by omega) hol
      refine ⟨hI.cl.set hc hpp, hI.tr, ?_, ?_, ?_, hI.pre, ?_, hI.perm.set hc hpp, hI.g⟩
      · intro z
        have hz := hI.wt z
        by_cases hzx : z = x
        · subst hzx
          simp only [upd, if_true] at hz ⊢
          refine ⟨hkk.2.2, fun j => ?_⟩
          rw [List.getElem?_set]
          by_cases hj : k = j
          · subst hj
            have hk1 : k < cl1.length := (List.getElem?_eq_some_iff.1 hc).1
            simp only [if_true, hk1, Option.some.injEq]
            constructor
            · intro e; rcases List.mem_append.1 e with e | e
              · exact absurd e hkk.1
              · exact absurd e hkk.2.1
            · rintro ⟨d, rfl, e | e⟩
              · rw [c20] at e; cases e; exact absurd rfl hax
              · rw [c21] at e; cases e; exact absurd rfl hyx
          · rw [if_neg hj, ← hz.2 j]
            simp only [List.mem_append, List.mem_cons]
            constructor
            · rintro (e | e) <;> simp [e]
            · rintro (e | rfl | e)
              · exact .inl e
              · exact absurd rfl hj
              · exact .inr e
        · by_cases hzy : z = y
          · subst hzy
            simp only [upd, if_true, if_neg hzx] at hz ⊢
            have hkn : k ∉ s.wt z := by
              intro e
              obtain ⟨d, hd, e2⟩ := (hz.2 k).1 e
              rw [hc] at hd
              cases hd
              rcases e2 with e2 | e2
              · rw [ha] at e2; cases e2; exact hya rfl
              · rw [h1] at e2; cases e2; exact hzx rfl
            refine ⟨?_, fun j => ?_⟩
            · rw [List.nodup_append]
              refine ⟨hz.1, by simp, fun p hp q hq e => ?_⟩
              simp at hq
              subst hq; subst e
              exact hkn hp
            · rw [List.getElem?_set]
              by_cases hj : k = j
              · subst hj
                have hk1 : k < cl1.length := (List.getElem?_eq_some_iff.1 hc).1
                simp [hk1, c21]
              · rw [if_neg hj, ← hz.2 j]
                simp [show ¬ j = k from fun e => hj e.symm]
          · simp only [upd, if_neg hzx, if_neg hzy] at hz ⊢
            refine ⟨hz.1, fun j => ?_⟩
            rw [hz.2 j, List.getElem?_set]
            by_cases hj : k = j
            · subst hj
              have hk1 : k < cl1.length := (List.getElem?_eq_some_iff.1 hc).1
              simp only [if_true, hk1, hc, Option.some.injEq]
              constructor
              · rintro ⟨d, rfl, e | e⟩
                · exact ⟨_, rfl, .inl (by rw [c20, ← ha]; exact e)⟩
                · rw [h1] at e; cases e; exact absurd rfl hzx
              · rintro ⟨d, rfl, e | e⟩
                · exact ⟨_, rfl, .inl (by rw [ha, ← c20]; exact e)⟩
                · rw [c21] at e; cases e; exact absurd rfl hzy
            · rw [if_neg hj]
      · refine hI.wat.set fun p q h0 hd1 => ?_
        rw [c20] at h0
        rw [c21] at hd1
        cases h0; cases hd1
        exact ⟨fun e => absurd ((hI.wat c hcm _ _ ha h1).1 e) hxn, fun e => absurd (hI.pre.subset (hT _ e)) hyt⟩
      · intro P hP
        refine (hI.cks P hP).set fun p q h0 hd1 => ?_
        rw [c20] at h0
        rw [c21] at hd1
        cases h0; cases hd1
        exact ⟨fun e => absurd (hI.pre.subset (hCs P hP _ ((hI.cks P hP c hcm _ _ ha h1).1 e))) hxn, fun e => absurd (hI.pre.subset (hCs P hP _ e)) hyt⟩
      · intro j hj d p q hd h0 hd1
        have hne : k ≠ j := by rintro rfl; exact hkk.1 hj
        rw [List.getElem?_set_ne hne] at hd
        exact hI.kept j hj d p q hd h0 hd1
    | none =>
      have hf : ∀ z ∈ c, z ≠ a → -z ∈ s.tr := by
        intro z hz hne
        obtain ⟨i, hi, rfl⟩ := List.getElem_of_mem hz
        have e := List.getElem?_eq_getElem hi
        rcases Nat.lt_or_ge i 2 with hi2 | hi2
        · rcases (by omega : i = 0 ∨ i = 1) with rfl | rfl
          · rw [e] at ha; cases ha; exact absurd rfl hne
          · rw [e] at h1; cases h1; exact hxt
        · exact other_none ho i _ hi2 e
      have ham : a ∈ c := List.mem_of_getElem? ha
      simp only
      by_cases han : -a ∈ s.tr
      · rw [if_pos han]
        refine ⟨fun e => by simp at e, fun _ => ?_⟩
        refine ⟨hI.cl, hI.tr, by simpa using hI.wt, hI.cks, hI.pre, hI.perm, hI.g, c, hcm, fun z hz => ?_⟩
        by_cases e : z = a
        · subst e; exact han
        · exact hf z hz e
      · rw [if_neg han]
        refine ⟨fun _ => ?_, fun e => by simp at e⟩
        have hal := (hI.cl c hcm).2.2 a ham
        have hga2 : G a := hG.perm hI.perm c hcm a ham fun z hz hne => hI.g _ (hf z hz hne)
        refine ⟨hI.cl, ?_, by simpa using hI.wt, hI.wat.grow (fun z hz => by simp [hz]), hI.cks, hI.pre.trans (List.prefix_append _ _), ?_, hI.perm, ?_⟩
        · refine ⟨fun z hz => ?_, ?_⟩
          · rcases List.mem_append.1 hz with hz | hz
            · exact hI.tr.1 z hz
            · simp at hz; subst hz; exact hal
          · rw [List.map_append, List.nodup_append]
            refine ⟨hI.tr.2, by simp, fun p hp q hq e => ?_⟩
            simp at hq
            subst hq; subst e
            obtain ⟨z, hz, hza⟩ := List.mem_map.1 hp
            rcases Int.natAbs_eq_natAbs_iff.1 hza with e | e
            · subst e; exact hat hz
            · subst e; exact han hz
        · intro j hj d p q hd h0 hd1
          rcases List.mem_append.1 hj with hj | hj
          · have := hI.kept j hj d p q hd h0 hd1
            exact ⟨fun e => by simp [this.1 e], fun e => by simp [this.2 e]⟩
          · simp at hj
            subst hj
            rw [hc] at hd
            cases hd
            rw [ha] at h0
            rw [h1] at hd1
            cases h0; cases hd1
            exact ⟨fun e => absurd e hax, fun _ => by simp⟩
        · intro z hz
          rcases List.mem_append.1 hz with hz | hz
          · exact hI.g z hz
          · simp at hz; subst hz; exact hga2
end
end Go.Proofs.Sv
end

section
/- An engine that decides and turns: its decisions, what is left to search. Nothing of a program. -/
namespace Go.Proofs.Sv
set_option linter.unusedVariables false
set_option linter.unusedSimpArgs false
structure Core (V : Nat) (G : Int → Prop) (cl0 Cs cl : List (List Int)) (wt : Int → List Nat) (tr : List Int) (dn : Nat) : Prop where
  hcl : ClOk V cl
  htr : TrOk V tr
  hwt : WtOk cl wt
  hwat : Wat cl (tr.take dn) tr
  hcks : ∀ P ∈ Cs, Wat cl P P
  hpcs : ∀ P ∈ Cs, P <+: tr
  hperm : Perms cl0 cl
  hg : ∀ y ∈ tr, G y
structure Conf (V : Nat) (G : Int → Prop) (cl0 Cs cl : List (List Int)) (wt : Int → List Nat) (tr : List Int) : Prop where
  hcl : ClOk V cl
  htr : TrOk V tr
  hwt : WtOk cl wt
  hcks : ∀ P ∈ Cs, Wat cl P P
  hperm : Perms cl0 cl
  hg : ∀ y ∈ tr, G y
  hbad : ∃ c ∈ cl, ∀ z ∈ c, -z ∈ tr
theorem upd_same (f : Int → List Nat) (x : Int) : upd f x (f x) = f := by
  funext z; unfold upd; split
  · rename_i h; rw [h]
  · rfl
section
variable {V : Nat} {G : Int → Prop} {cl0 Cs cl : List (List Int)} {wt : Int → List Nat} {tr : List Int} {dn : Nat} {x : Int} {s : St}
theorem Core.start (h : Core V G cl0 Cs cl wt tr dn) : VI V G cl0 Cs (tr.take dn) tr x ⟨cl, wt, tr, []⟩ (wt x) :=
  ⟨h.hcl, h.htr, by simp only [List.nil_append, upd_same]; exact h.hwt, h.hwat, h.hcks, List.prefix_refl _, by simp, h.hperm, h.hg⟩
theorem VI.final (h : VI V G cl0 Cs (tr.take dn) tr x s []) (hx : tr[dn]? = some (-x)) (hp : ∀ P ∈ Cs, P <+: tr) : Core V G cl0 Cs s.cl (upd s.wt x s.kp) s.tr (dn + 1) := by
  have hd := (List.getElem?_eq_some_iff.1 hx).1
  have ht : s.tr.take (dn + 1) = tr.take dn ++ [-x] := by
    have h1 := List.prefix_iff_eq_take.1 h.pre
    have h2 : s.tr.take (dn + 1) = (s.tr.take tr.length).take (dn + 1) := by rw [List.take_take, Nat.min_eq_left (by omega)]
    rw [h2, ← h1, List.take_add_one, hx]; rfl
  refine ⟨h.cl, h.tr, by simpa using h.wt, ?_, h.cks, fun P hP => (hp P hP).trans h.pre, h.perm, h.g⟩
  rw [ht]
  intro c hc a b h0 h1
  have hw := h.wat c hc a b h0 h1
  obtain ⟨k, hk, rfl⟩ := List.getElem_of_mem hc
  have hkc := List.getElem?_eq_getElem hk
  have hkp : ∀ y, (s.cl[k][0]? = some y ∨ s.cl[k][1]? = some y) → y = x → k ∈ s.kp := by
    rintro y hy rfl
    have := ((h.wt y).2 k).2 ⟨_, hkc, hy⟩
    simpa [upd] using this
  refine ⟨fun e => ?_, fun e => ?_⟩
  · rcases List.mem_append.1 e with e | e
    · exact hw.1 e
    · have e2 : a = x := by simpa using e
      exact (h.kept k (hkp a (.inl h0) e2) _ a b hkc h0 h1).1 e2
  · rcases List.mem_append.1 e with e | e
    · exact hw.2 e
    · have e2 : b = x := by simpa using e
      exact (h.kept k (hkp b (.inr h1) e2) _ a b hkc h0 h1).2 e2
theorem VC.final {tr0 : List Int} {rest : List Nat} (h : VC V G cl0 Cs tr0 x s rest) : Conf V G cl0 Cs s.cl (upd s.wt x (s.kp ++ rest)) s.tr := ⟨h.cl, h.tr, h.wt, h.cks, h.perm, h.g, h.bad⟩
end
/-! ### Decisions -/
structure Dec where
  v : Nat
  t : Nat
  tn : Bool
def dlit (d : Dec) : Int := if d.tn then (d.v : Int) else -(d.v : Int)
def agr (D : List Dec) (A : List Bool) : Bool := D.all fun d => litT A (dlit d)
def branch : List Dec → List Bool → Bool
  | [], _ => false
  | d :: D, A => (!d.tn && agr D A && !litT A (dlit d)) || branch D A
def left (D : List Dec) (A : List Bool) : Bool := agr D A || branch D A
theorem agr_cons (d : Dec) (D : List Dec) (A : List Bool) : agr (d :: D) A = (litT A (dlit d) && agr D A) := rfl
/-- the last decision that can be changed -/
def turnF (n : Nat) : List Dec → Option (List Dec)
  | [] => none
  | d :: D => if d.tn = false ∧ d.v ≤ n then some (⟨d.v, d.t, true⟩ :: D) else turnF n D
theorem litT_neg {A : List Bool} {x : Int} (h0 : x ≠ 0) : litT A (-x) = !litT A x := by
  unfold litT
  rw [Int.natAbs_neg]
  have e : decide (0 < -x) = !decide (0 < x) := by
    by_cases h : 0 < x
    · rw [decide_eq_true h, decide_eq_false (by omega)]; rfl
    · rw [decide_eq_false h, decide_eq_true (by omega)]; rfl
  rw [e]
  cases A.getD (x.natAbs - 1) false <;> cases decide (0 < x) <;> rfl
theorem litT_var {A : List Bool} {v : Nat} (h : 1 ≤ v) : litT A (v : Int) = A.getD (v - 1) false := by
  unfold litT
  have : decide (0 < (v : Int)) = true := by simp; omega
  rw [this]; simp
theorem litT_nvar {A : List Bool} {v : Nat} (h : 1 ≤ v) : litT A (-(v : Int)) = !A.getD (v - 1) false := by
  rw [litT_neg (by omega), litT_var h]
theorem branch_not_agr : ∀ {D : List Dec} {A : List Bool}, branch D A = true → agr D A = false
  | d :: D, A, h => by
    rw [branch, Bool.or_eq_true] at h
    rw [agr_cons]
    rcases h with h | h
    · simp only [Bool.and_eq_true, Bool.not_eq_true'] at h
      rw [h.2]; rfl
    · rw [branch_not_agr h]; simp
section
variable (V : Nat) (M : List Bool → Prop) (U : List Int)
/-- the decisions, the last first, and the trail -/
def SInv : List Dec → List Int → Prop
  | [], tr => U <+: tr ∧ ∀ A, M A → ∀ x ∈ tr, litT A x = true
  | d :: D, tr => SInv D (tr.take d.t) ∧ tr[d.t]? = some (dlit d) ∧ (1 ≤ d.v ∧ d.v ≤ V) ∧ (∀ u : Nat, 1 ≤ u → u < d.v → (u : Int) ∈ tr.take d.t ∨ -(u : Int) ∈ tr.take d.t) ∧ ∀ A, M A → agr (d :: D) A = true → ∀ x ∈ tr, litT A x = true
end
/-- the beginnings of the trail that are gone back to -/
def chk : List Dec → List Int → List (List Int)
  | [], _ => []
  | d :: D, tr => tr.take d.t :: chk D (tr.take d.t)
section
variable {V : Nat} {M : List Bool → Prop} {U : List Int}
theorem SInv.sound : ∀ {D : List Dec} {tr : List Int}, SInv V M U D tr → ∀ A, M A → agr D A = true → ∀ x ∈ tr, litT A x = true
  | [], tr, h, A, hA, _, x, hx => h.2 A hA x hx
  | d :: D, tr, h, A, hA, hg, x, hx => h.2.2.2.2 A hA hg x hx
theorem SInv.pre : ∀ {D : List Dec} {tr : List Int}, SInv V M U D tr → U <+: tr
  | [], tr, h => h.1
  | d :: D, tr, h => (SInv.pre h.1).trans (List.take_prefix _ _)
theorem take_of_prefix {α : Type} {a b : List α} (h : a <+: b) {n : Nat} (hn : n ≤ a.length) : b.take n = a.take n := by
  obtain ⟨r, rfl⟩ := h
  exact List.take_append_of_le_length hn
theorem SInv.grow {D : List Dec} {tr tr' : List Int} (h : SInv V M U D tr) (hp : tr <+: tr') (hs : ∀ A, M A → agr D A = true → ∀ x ∈ tr', litT A x = true) : SInv V M U D tr' := by
  cases D with
  | nil => exact ⟨h.1.trans hp, fun A hA => hs A hA rfl⟩
  | cons d D =>
    obtain ⟨h1, h2, h3, h4, _⟩ := h
    have hd := (List.getElem?_eq_some_iff.1 h2).1
    have ht := take_of_prefix hp (Nat.le_of_lt hd)
    have hg : tr'[d.t]? = some (dlit d) := by
      obtain ⟨r, rfl⟩ := hp
      rw [List.getElem?_append_left hd]; exact h2
    exact ⟨by rw [ht]; exact h1, hg, h3, by rw [ht]; exact h4, hs⟩
theorem chk_grow {D : List Dec} {tr tr' : List Int} (h : SInv V M U D tr) (hp : tr <+: tr') : chk D tr' = chk D tr := by
  cases D with
  | nil => rfl
  | cons d D =>
    have hd := (List.getElem?_eq_some_iff.1 h.2.1).1
    rw [chk, chk, take_of_prefix hp (Nat.le_of_lt hd)]
theorem chk_pre : ∀ {D : List Dec} {tr : List Int}, ∀ P ∈ chk D tr, P <+: tr
  | d :: D, tr, P, h => by
    rw [chk, List.mem_cons] at h
    rcases h with rfl | h
    · exact List.take_prefix _ _
    · exact (chk_pre P h).trans (List.take_prefix _ _)
/-- what is granted under decisions -/
def Gr (M : List Bool → Prop) (D : List Dec) (y : Int) : Prop := ∀ A, M A → agr D A = true → litT A y = true
theorem unit_Gr {cl0 : List (List Int)} (hc : ClOk V cl0) (hM : ∀ A, M A → sat cl0 A = true) (D : List Dec) : Unit (Gr M D) cl0 := by
  intro c hcm y hy hz A hA hg
  have h := hM A hA
  unfold sat at h
  rw [List.all_eq_true] at h
  have h1 := h c hcm
  rw [List.any_eq_true] at h1
  obtain ⟨z, hzm, ht⟩ := h1
  by_cases e : z = y
  · rw [← e]; exact ht
  · have := hz z hzm e A hA hg
    rw [litT_neg ((hc c hcm).2.2 z hzm).1, ht] at this
    cases this
theorem sat_perm {cl0 cl : List (List Int)} (h : Perms cl0 cl) (A : List Bool) : sat cl A = sat cl0 A := by
  unfold sat
  rw [Bool.eq_iff_iff, List.all_eq_true, List.all_eq_true]
  constructor
  · intro h1 c hc
    obtain ⟨c1, hc1, hp⟩ := h.mem' hc
    have := h1 c1 hc1
    rw [List.any_eq_true] at this ⊢
    obtain ⟨z, hz, ht⟩ := this
    exact ⟨z, hp.mem_iff.1 hz, ht⟩
  · intro h1 c hc
    obtain ⟨c1, hc1, hp⟩ := h.mem hc
    have := h1 c1 hc1
    rw [List.any_eq_true] at this ⊢
    obtain ⟨z, hz, ht⟩ := this
    exact ⟨z, hp.mem_iff.2 hz, ht⟩
/-- the engine between its steps, but for what was visited -/
structure BI (V : Nat) (M : List Bool → Prop) (U : List Int) (cl0 : List (List Int)) (D : List Dec) (cl : List (List Int)) (wt : Int → List Nat) (tr : List Int) : Prop where
  hcl : ClOk V cl
  htr : TrOk V tr
  hwt : WtOk cl wt
  hcks : ∀ P ∈ chk D tr, Wat cl P P
  hperm : Perms cl0 cl
  s : SInv V M U D tr
structure EI (V : Nat) (M : List Bool → Prop) (U : List Int) (cl0 : List (List Int)) (D : List Dec) (cl : List (List Int)) (wt : Int → List Nat) (tr : List Int) (dn : Nat) : Prop where
  b : BI V M U cl0 D cl wt tr
  hwat : Wat cl (tr.take dn) tr
variable {cl0 cl : List (List Int)} {wt : Int → List Nat} {tr : List Int} {dn : Nat} {D : List Dec} {d : Dec}
theorem EI.core (h : EI V M U cl0 D cl wt tr dn) : Core V (Gr M D) cl0 (chk D tr) cl wt tr dn :=
  ⟨h.b.hcl, h.b.htr, h.b.hwt, h.hwat, h.b.hcks, chk_pre, h.b.hperm, fun y hy A hA hg => h.b.s.sound A hA hg y hy⟩
theorem Core.ei {cl' : List (List Int)} {wt' : Int → List Nat} {tr' : List Int} {dn' : Nat} (hb : SInv V M U D tr) (hp : tr <+: tr') (h : Core V (Gr M D) cl0 (chk D tr) cl' wt' tr' dn') : EI V M U cl0 D cl' wt' tr' dn' :=
  ⟨⟨h.hcl, h.htr, h.hwt, by rw [chk_grow hb hp]; exact h.hcks, h.hperm, hb.grow hp fun A hA hg x hx => h.hg x hx A hA hg⟩, h.hwat⟩
theorem Conf.bi {cl' : List (List Int)} {wt' : Int → List Nat} {tr' : List Int} (hb : SInv V M U D tr) (hp : tr <+: tr') (h : Conf V (Gr M D) cl0 (chk D tr) cl' wt' tr') : BI V M U cl0 D cl' wt' tr' :=
  ⟨h.hcl, h.htr, h.hwt, by rw [chk_grow hb hp]; exact h.hcks, h.hperm, hb.grow hp fun A hA hg x hx => h.hg x hx A hA hg⟩
/-- a conflict: nothing agrees with the decisions -/
theorem Conf.none (hM : ∀ A, M A → sat cl0 A = true) {Cs : List (List Int)} (h : Conf V (Gr M D) cl0 Cs cl wt tr) {A : List Bool} (hA : M A) : agr D A = false := by
  cases hg : agr D A with
  | false => rfl
  | true =>
    exfalso
    obtain ⟨c, hc, hz⟩ := h.hbad
    have h1 := hM A hA
    rw [← sat_perm h.hperm] at h1
    unfold sat at h1
    rw [List.all_eq_true] at h1
    have h2 := h1 c hc
    rw [List.any_eq_true] at h2
    obtain ⟨z, hzm, ht⟩ := h2
    have := h.hg _ (hz z hzm) A hA hg
    rw [litT_neg ((h.hcl c hc).2.2 z hzm).1, ht] at this
    cases this
theorem TrOk.take (h : TrOk V tr) (n : Nat) : TrOk V (tr.take n) := ⟨fun x hx => h.1 x (List.mem_of_mem_take hx), by rw [List.map_take]; exact h.2.sublist (List.take_sublist _ _)⟩
theorem BI.back (h : BI V M U cl0 (d :: D) cl wt tr) : EI V M U cl0 D cl wt (tr.take d.t) d.t := by
  refine ⟨⟨h.hcl, h.htr.take _, h.hwt, fun P hP => h.hcks P (by simp [chk, hP]), h.hperm, h.s.1⟩, ?_⟩
  rw [List.take_take, Nat.min_self]
  exact h.hcks _ (by simp [chk])
theorem EI.decide (h : EI V M U cl0 D cl wt tr tr.length) {v : Nat} {tn : Bool} (h1 : 1 ≤ v ∧ v ≤ V) (hv : (v : Int) ∉ tr ∧ -(v : Int) ∉ tr) (hb : ∀ u : Nat, 1 ≤ u → u < v → (u : Int) ∈ tr ∨ -(u : Int) ∈ tr) :
    EI V M U cl0 (⟨v, tr.length, tn⟩ :: D) cl wt (tr ++ [dlit ⟨v, tr.length, tn⟩]) tr.length := by
  have htk : (tr ++ [dlit ⟨v, tr.length, tn⟩]).take tr.length = tr := by simp
  have hw := h.hwat
  rw [List.take_length] at hw
  have hl : (dlit ⟨v, tr.length, tn⟩).natAbs = v := by unfold dlit; cases tn <;> simp
  refine ⟨⟨h.b.hcl, ⟨?_, ?_⟩, h.b.hwt, ?_, h.b.hperm, ?_⟩, ?_⟩
  · intro x hx
    rcases List.mem_append.1 hx with hx | hx
    · exact h.b.htr.1 x hx
    · simp at hx; subst hx; omega
  · rw [List.map_append, List.nodup_append]
    refine ⟨h.b.htr.2, by simp, fun p hp q hq e => ?_⟩
    simp [hl] at hq
    subst hq; subst e
    obtain ⟨z, hz, hza⟩ := List.mem_map.1 hp
    rcases Int.natAbs_eq z with e | e
    · rw [hza] at e; rw [e] at hz; exact hv.1 hz
    · rw [hza] at e; rw [e] at hz; exact hv.2 hz
  · intro P hP
    rw [chk, List.mem_cons] at hP
    simp only [htk] at hP
    rcases hP with rfl | hP
    · exact hw
    · exact h.b.hcks P hP
  · refine ⟨by simp only [htk]; exact h.b.s, by simp, h1, by simp only [htk]; exact hb, fun A hA hg x hx => ?_⟩
    rw [agr_cons, Bool.and_eq_true] at hg
    rcases List.mem_append.1 hx with hx | hx
    · exact h.b.s.sound A hA hg.2 x hx
    · simp at hx; rw [hx]; exact hg.1
  · rw [htk]; exact hw.grow fun x hx => by simp [hx]
/-- the last decision that can be changed, changed; the trail is what lay before it -/
theorem BI.turn {n : Nat} : ∀ {D : List Dec} {tr : List Int}, BI V M U cl0 D cl wt tr → ∀ {D' : List Dec}, turnF n D = some D' → ∃ (d : Dec) (D0 : List Dec), D' = ⟨d.v, d.t, true⟩ :: D0 ∧ d.t ≤ tr.length ∧
    EI V M U cl0 D' cl wt (tr.take d.t ++ [(d.v : Int)]) d.t
  | d :: D, tr, h, D', ht => by
    unfold turnF at ht
    have hlt := (List.getElem?_eq_some_iff.1 h.s.2.1).1
    split at ht
    · rename_i hc
      cases ht
      refine ⟨d, D, rfl, by omega, ?_⟩
      have hb := h.back
      have hlen : (tr.take d.t).length = d.t := by simp; omega
      have hnv : (d.v : Int) ∉ tr.take d.t ∧ -(d.v : Int) ∉ tr.take d.t := by
        have hm : dlit d = -(d.v : Int) := by unfold dlit; rw [hc.1]; rfl
        have hg := h.s.2.1
        rw [hm] at hg
        obtain ⟨_, hge⟩ := List.getElem?_eq_some_iff.1 hg
        have inj : ∀ y : Int, y ∈ tr.take d.t → y.natAbs ≠ d.v := by
          intro y hy e
          obtain ⟨i, hi, rfl⟩ := List.getElem_of_mem hy
          simp at hi
          rw [List.getElem_take] at e
          have a1 : (tr.map Int.natAbs)[i]'(by simp; omega) = (tr.map Int.natAbs)[d.t]'(by simpa using hlt) := by simp [hge, e]
          have := (List.getElem_inj h.htr.2).1 a1
          omega
        exact ⟨fun e => inj _ e (by simp), fun e => inj _ e (by simp)⟩
      have := EI.decide (tn := true) (v := d.v) (by rw [hlen]; exact hb) h.s.2.2.1 hnv h.s.2.2.2.1
      rw [hlen] at this
      exact this
    · obtain ⟨d', D0, e1, e2, e3⟩ := BI.turn h.back.b ht
      have hle : d'.t ≤ d.t := by simp at e2; omega
      rw [List.take_take, Nat.min_eq_left hle] at e3
      exact ⟨d', D0, e1, by omega, e3⟩
end
end Go.Proofs.Sv
end

section
/- What is left to search, in order; each turn leaves less. Nothing of a program. -/
namespace Go.Proofs.Sv
set_option linter.unusedVariables false
set_option linter.unusedSimpArgs false
/-- values in their order -/
def lexlt (B A : List Bool) : Prop := ∃ i : Nat, B[i]? = some false ∧ A[i]? = some true ∧ ∀ j < i, B[j]? = A[j]?
theorem lexlt.asymm {A B : List Bool} (h : lexlt A B) : ¬ lexlt B A := by
  rintro ⟨j, h1, h2, h3⟩
  obtain ⟨i, g1, g2, g3⟩ := h
  rcases Nat.lt_trichotomy i j with e | e | e
  · have := h3 i e; rw [g1, g2] at this; cases this
  · subst e; rw [g1] at h2; cases h2
  · have := g3 j e; rw [h1, h2] at this; cases this
theorem lexlt.irrefl {A : List Bool} : ¬ lexlt A A := fun h => h.asymm h
theorem ext_sorted (k : Nat) (l : List Bool) : (ext k l).Pairwise lexlt := by
  induction k generalizing l with
  | zero => simp [ext]
  | succ k ih =>
    rw [ext, List.pairwise_append]
    refine ⟨ih _, ih _, fun a ha b hb => ?_⟩
    obtain ⟨r, _, rfl⟩ := ext_mem.1 ha
    obtain ⟨s, _, rfl⟩ := ext_mem.1 hb
    refine ⟨l.length, by simp, by simp, fun j hj => ?_⟩
    rw [List.append_assoc, List.append_assoc, List.getElem?_append_left hj, List.getElem?_append_left hj]
theorem filter_head {S : List (List Bool)} (hs : S.Pairwise lexlt) {B : List Bool} (hB : B ∈ S) {p q : List Bool → Bool} (hp : ∀ A ∈ S, p A = true ↔ A = B ∨ q A = true) (hq : ∀ A ∈ S, q A = true → lexlt B A) : S.filter p = B :: S.filter q := by
  induction S with
  | nil => simp at hB
  | cons A S ih =>
    rw [List.pairwise_cons] at hs
    have hA := hp A (by simp)
    by_cases e : A = B
    · subst e
      rw [List.filter_cons_of_pos (hA.2 (.inl rfl)), List.filter_cons_of_neg (fun h => lexlt.irrefl (hq A (by simp) h))]
      congr 1
      refine List.filter_congr fun C hC => ?_
      rw [Bool.eq_iff_iff, hp C (by simp [hC])]
      constructor
      · rintro (rfl | h)
        · exact absurd (hs.1 C hC) lexlt.irrefl
        · exact h
      · exact .inr
    · have hB' : B ∈ S := by
        rcases List.mem_cons.1 hB with h | h
        · exact absurd h.symm e
        · exact h
      have hn : ¬ q A = true := fun h => (hs.1 B hB').asymm (hq A (by simp) h)
      rw [List.filter_cons_of_neg (fun h => by rcases hA.1 h with h | h; exact e h; exact hn h), List.filter_cons_of_neg hn]
      exact ih hs.2 hB' (fun C hC => hp C (by simp [hC])) fun C hC => hq C (by simp [hC])
theorem countP_lt {α : Type} {p q : α → Bool} {l : List α} (h : ∀ a ∈ l, q a = true → p a = true) {a : α} (ha : a ∈ l) (hp : p a = true) (hq : q a = false) : l.countP q < l.countP p := by
  induction l with
  | nil => simp at ha
  | cons b l ih =>
    have hle : l.countP q ≤ l.countP p := List.countP_mono_left fun x hx => h x (by simp [hx])
    rw [List.countP_cons, List.countP_cons]
    rcases List.mem_cons.1 ha with rfl | ha
    · rw [hp, hq]; simp; omega
    · have := ih (fun x hx => h x (by simp [hx])) ha
      have hb := h b (by simp)
      by_cases e : q b = true
      · rw [e, hb e]; simp; omega
      · rw [if_neg e]; split <;> omega
/-- the values that a trail gives -/
def asg (V : Nat) (tr : List Int) : List Bool := (List.range V).map fun i => decide (((i + 1 : Nat) : Int) ∈ tr)
theorem asg_length (V : Nat) (tr : List Int) : (asg V tr).length = V := by simp [asg]
theorem asg_get {V : Nat} {tr : List Int} {v : Nat} (h : 1 ≤ v ∧ v ≤ V) : (asg V tr).getD (v - 1) false = decide ((v : Int) ∈ tr) := by
  unfold asg
  rw [List.getD_eq_getElem?_getD, List.getElem?_map, List.getElem?_range (by omega)]
  have e : ((v - 1 : Nat) : Int) + 1 = (v : Int) := by omega
  simp [e]
theorem asg_true {V : Nat} {tr : List Int} (h : TrOk V tr) {x : Int} (hx : x ∈ tr) : litT (asg V tr) x = true := by
  obtain ⟨h0, hV⟩ := h.1 x hx
  have hn := h.not_both hx
  rcases Int.natAbs_eq x with e | e
  · rw [e, litT_var (by omega), asg_get (by omega), ← e]; simpa using hx
  · rw [e, litT_nvar (by omega), asg_get (by omega)]
    have : (x.natAbs : Int) ∉ tr := by rw [show (x.natAbs : Int) = -x by omega]; exact hn
    simpa using this
theorem getD_get {A : List Bool} {i : Nat} (h : i < A.length) : A[i]? = some (A.getD i false) := by
  rw [List.getD_eq_getElem?_getD, List.getElem?_eq_getElem h]; rfl
section
variable {V : Nat} {M : List Bool → Prop} {U : List Int} {D : List Dec} {tr : List Int}
theorem SInv.dlit_mem : ∀ {D : List Dec} {tr : List Int}, SInv V M U D tr → ∀ d ∈ D, dlit d ∈ tr
  | d :: D, tr, h, e, he => by
    rcases List.mem_cons.1 he with rfl | he
    · exact List.mem_of_getElem? h.2.1
    · exact List.mem_of_mem_take (SInv.dlit_mem h.1 e he)
theorem SInv.asg_agr (h : SInv V M U D tr) (ht : TrOk V tr) : agr D (asg V tr) = true := by
  unfold agr
  rw [List.all_eq_true]
  exact fun d hd => asg_true ht (h.dlit_mem d hd)
/-- a later decision is on a later variable -/
theorem SInv.mono : ∀ {D : List Dec} {d : Dec} {tr : List Int}, SInv V M U (d :: D) tr → TrOk V tr → ∀ e ∈ D, e.v < d.v
  | D, d, tr, h, ht, e, he => by
    obtain ⟨h1, h2, h3, h4, _⟩ := h
    have hm := h1.dlit_mem e he
    have hne : e.v ≠ d.v := by
      intro e1
      obtain ⟨i, hi, hie⟩ := List.getElem_of_mem hm
      obtain ⟨hd, hde⟩ := List.getElem?_eq_some_iff.1 h2
      rw [List.getElem_take] at hie
      simp at hi
      have a1 : (tr.map Int.natAbs)[i]'(by simp; omega) = (tr.map Int.natAbs)[d.t]'(by simpa using hd) := by
        simp only [List.getElem_map, hie, hde, dlit]
        cases e.tn <;> cases d.tn <;> simp [e1]
      have := (List.getElem_inj ht.2).1 a1
      omega
    rcases Nat.lt_or_ge e.v d.v with hl | hl
    · exact hl
    · exfalso
      -- all variables below e's were given values before it; d's was not
      have key : ∀ {D : List Dec} {tr : List Int}, SInv V M U D tr → e ∈ D → ∀ u : Nat, 1 ≤ u → u < e.v → (u : Int) ∈ tr ∨ -(u : Int) ∈ tr := by
        intro D
        induction D with
        | nil => intro tr _ he; simp at he
        | cons d D ih =>
          intro tr h he u h1 h2
          rcases List.mem_cons.1 he with rfl | he
          · rcases h.2.2.2.1 u h1 h2 with a | a
            · exact .inl (List.mem_of_mem_take a)
            · exact .inr (List.mem_of_mem_take a)
          · rcases ih h.1 he u h1 h2 with a | a
            · exact .inl (List.mem_of_mem_take a)
            · exact .inr (List.mem_of_mem_take a)
      have hk := key h1 he d.v h3.1 (by omega)
      have hin : ∀ y : Int, y ∈ tr.take d.t → y.natAbs ≠ d.v := by
        intro y hy e1
        obtain ⟨i, hi, rfl⟩ := List.getElem_of_mem hy
        obtain ⟨hd, hde⟩ := List.getElem?_eq_some_iff.1 h2
        rw [List.getElem_take] at e1
        simp at hi
        have a1 : (tr.map Int.natAbs)[i]'(by simp; omega) = (tr.map Int.natAbs)[d.t]'(by simpa using hd) := by
          simp only [List.getElem_map, hde, dlit, e1]
          cases d.tn <;> simp
        have := (List.getElem_inj ht.2).1 a1
        omega
      rcases hk with a | a
      · exact hin _ a (by simp)
      · exact hin _ a (by simp)
/-- where what is left differs first from what agrees with the decisions -/
theorem branch_diff (hM : ∀ A, M A → A.length = V) : ∀ {D : List Dec} {tr : List Int}, SInv V M U D tr → TrOk V tr → ∀ {A B : List Bool}, M A → M B → branch D A = true → agr D B = true →
    ∃ e ∈ D, e.tn = false ∧ A[e.v - 1]? = some true ∧ B[e.v - 1]? = some false ∧ 1 ≤ e.v ∧ ∀ j < e.v - 1, B[j]? = A[j]?
  | d :: D, tr, h, ht, A, B, hA, hB, hbr, hg => by
    rw [agr_cons, Bool.and_eq_true] at hg
    rw [branch, Bool.or_eq_true] at hbr
    rcases hbr with hbr | hbr
    · simp only [Bool.and_eq_true, Bool.not_eq_true'] at hbr
      obtain ⟨⟨h1, h2⟩, h3⟩ := hbr
      have hm : dlit d = -(d.v : Int) := by unfold dlit; rw [h1]; rfl
      obtain ⟨hv1, hv2⟩ := h.2.2.1
      rw [hm, litT_nvar hv1] at h3
      have h4 := hg.1
      rw [hm, litT_nvar hv1] at h4
      refine ⟨d, by simp, h1, ?_, ?_, hv1, fun j hj => ?_⟩
      · rw [getD_get (by rw [hM A hA]; omega)]; simpa using h3
      · rw [getD_get (by rw [hM B hB]; omega)]; simpa using h4
      · rw [getD_get (A := B) (by rw [hM B hB]; omega), getD_get (A := A) (by rw [hM A hA]; omega)]
        congr 1
        have sA := h.1.sound A hA h2
        have sB := h.1.sound B hB hg.2
        have hj1 : j + 1 - 1 = j := by omega
        rcases h.2.2.2.1 (j + 1) (by omega) (by omega) with a | a
        · have a1 := sA _ a; have a2 := sB _ a
          rw [litT_var (by omega), hj1] at a1 a2
          rw [a1, a2]
        · have a1 := sA _ a; have a2 := sB _ a
          rw [litT_nvar (by omega), hj1] at a1 a2
          simp only [Bool.not_eq_true'] at a1 a2
          rw [a1, a2]
    · obtain ⟨e, he, h5⟩ := branch_diff hM h.1 (ht.take _) hA hB hbr hg.2
      exact ⟨e, by simp [he], h5⟩
theorem take_same {A B : List Bool} {n p : Nat} (h : ∀ j < p, B[j]? = A[j]?) (hn : n ≤ p) : A.take n = B.take n := by
  apply List.ext_getElem?
  intro i
  rw [List.getElem?_take, List.getElem?_take]
  split
  · exact (h i (by omega)).symm
  · rfl
theorem take_diff {A B : List Bool} {n p : Nat} (h1 : A[p]? = some true) (h2 : B[p]? = some false) (hn : p < n) : A.take n ≠ B.take n := by
  intro e
  have := congrArg (fun z : List Bool => z[p]?) e
  simp only [List.getElem?_take, if_pos hn, h1, h2] at this
  cases this
/-- what a turn leaves: what was left and differs in the first variables -/
theorem turn_left {n : Nat} (hM : ∀ A, M A → A.length = V) : ∀ {D : List Dec} {tr : List Int}, SInv V M U D tr → TrOk V tr → ∀ {D' : List Dec}, turnF n D = some D' → ∀ {A B : List Bool}, M A → M B → agr D B = true → (left D' A = true ↔ branch D A = true ∧ A.take n ≠ B.take n)
  | d :: D, tr, h, ht, D', hD', A, B, hA, hB, hg => by
    unfold turnF at hD'
    split at hD'
    · rename_i hc
      cases hD'
      have hm : dlit d = -(d.v : Int) := by unfold dlit; rw [hc.1]; rfl
      have e1 : left (⟨d.v, d.t, true⟩ :: D) A = branch (d :: D) A := by
        unfold left
        rw [agr_cons, branch, branch, hm, litT_nvar h.2.2.1.1, show dlit ⟨d.v, d.t, true⟩ = (d.v : Int) from rfl, litT_var h.2.2.1.1, hc.1]
        cases agr D A <;> cases A.getD (d.v - 1) false <;> simp
      rw [e1]
      constructor
      · intro hb
        refine ⟨hb, ?_⟩
        obtain ⟨e, he, _, a1, a2, a3, _⟩ := branch_diff hM h ht hA hB hb hg
        have : e.v ≤ d.v := by
          rcases List.mem_cons.1 he with rfl | he
          · omega
          · have := h.mono ht e he; omega
        exact take_diff a1 a2 (by omega)
      · exact fun hb => hb.1
    · rename_i hc
      have hg2 := hg
      rw [agr_cons, Bool.and_eq_true] at hg2
      rw [turn_left hM h.1 (ht.take _) hD' hA hB hg2.2]
      constructor
      · rintro ⟨a1, a2⟩
        exact ⟨by rw [branch, a1]; simp, a2⟩
      · rintro ⟨a1, a2⟩
        refine ⟨?_, a2⟩
        rw [branch, Bool.or_eq_true] at a1
        rcases a1 with a1 | a1
        · exfalso
          have hb : branch (d :: D) A = true := by rw [branch, a1]; rfl
          simp only [Bool.and_eq_true, Bool.not_eq_true'] at a1
          obtain ⟨⟨b1, b2⟩, b3⟩ := a1
          have hvn : n < d.v := by
            rcases Nat.lt_or_ge n d.v with h1 | h1
            · exact h1
            · exact absurd ⟨b1, h1⟩ hc
          obtain ⟨hv1, hv2⟩ := h.2.2.1
          have sA := h.1.sound A hA b2
          have sB := h.1.sound B hB hg2.2
          refine a2 (take_same (p := d.v - 1) (fun j hj => ?_) (by omega))
          rw [getD_get (A := B) (by rw [hM B hB]; omega), getD_get (A := A) (by rw [hM A hA]; omega)]
          congr 1
          have hj1 : j + 1 - 1 = j := by omega
          rcases h.2.2.2.1 (j + 1) (by omega) (by omega) with a | a
          · have a1 := sA _ a; have a2 := sB _ a
            rw [litT_var (by omega), hj1] at a1 a2
            rw [a1, a2]
          · have a1 := sA _ a; have a2 := sB _ a
            rw [litT_nvar (by omega), hj1] at a1 a2
            simp only [Bool.not_eq_true'] at a1 a2
            rw [a1, a2]
        · exact a1
theorem turn_none {n : Nat} (hM : ∀ A, M A → A.length = V) : ∀ {D : List Dec} {tr : List Int}, SInv V M U D tr → TrOk V tr → turnF n D = none → ∀ {A B : List Bool}, M A → M B → agr D B = true → branch D A = true → A.take n = B.take n
  | D, tr, h, ht, hD, A, B, hA, hB, hg, hb => by
    obtain ⟨e, he, a0, a1, a2, a3, a4⟩ := branch_diff hM h ht hA hB hb hg
    have key : ∀ {D : List Dec}, turnF n D = none → ∀ e ∈ D, e.tn = false → n < e.v := by
      intro D
      induction D with
      | nil => intro _ e he; simp at he
      | cons d D ih =>
        intro h e he h0
        unfold turnF at h
        split at h
        · cases h
        · rename_i hc
          rcases List.mem_cons.1 he with rfl | he
          · rcases Nat.lt_or_ge n e.v with h1 | h1
            · exact h1
            · exact absurd ⟨h0, h1⟩ hc
          · exact ih h e he h0
    have := key hD e he a0
    exact take_same a4 (by omega)
/-- a turn among all variables: what was left but for what agreed -/
theorem turn_all : ∀ {D : List Dec} {tr : List Int}, SInv V M U D tr → (∀ {D' : List Dec}, turnF V D = some D' → ∀ A, left D' A = branch D A) ∧ (turnF V D = none → ∀ A, branch D A = false)
  | [], tr, h => ⟨fun e => by simp [turnF] at e, fun _ A => rfl⟩
  | d :: D, tr, h => by
    have ih := turn_all h.1
    unfold turnF
    by_cases hc : d.tn = false ∧ d.v ≤ V
    · rw [if_pos hc]
      refine ⟨fun e A => ?_, fun e => by simp at e⟩
      cases e
      have hm : dlit d = -(d.v : Int) := by unfold dlit; rw [hc.1]; rfl
      unfold left
      rw [agr_cons, branch, branch, hm, litT_nvar h.2.2.1.1, show dlit ⟨d.v, d.t, true⟩ = (d.v : Int) from rfl, litT_var h.2.2.1.1, hc.1]
      cases agr D A <;> cases A.getD (d.v - 1) false <;> simp
    · rw [if_neg hc]
      have h1 : d.tn = true := by
        cases hq : d.tn with
        | true => rfl
        | false => exact absurd ⟨hq, h.2.2.1.2⟩ hc
      have hb : ∀ A, branch (d :: D) A = branch D A := fun A => by rw [branch, h1]; simp
      exact ⟨fun e A => by rw [hb]; exact ih.1 e A, fun e A => by rw [hb]; exact ih.2 e A⟩
theorem left_decide (D : List Dec) (v t : Nat) (A : List Bool) : left (⟨v, t, false⟩ :: D) A = left D A := by
  unfold left
  rw [agr_cons, branch]
  cases agr D A <;> cases litT A (dlit ⟨v, t, false⟩) <;> simp
/-- how much is left -/
def cnt (V : Nat) (D : List Dec) : Nat := (ext V []).countP (left D)
theorem cnt_turn (h : SInv V M U D tr) (ht : TrOk V tr) {D' : List Dec} (hD : turnF V D = some D') : cnt V D' < cnt V D := by
  have hl := (turn_all h).1 hD
  refine countP_lt (fun A _ hA => ?_) (ext_all V (asg V tr) (asg_length _ _)) ?_ ?_
  · rw [hl] at hA; unfold left; rw [hA]; simp
  · unfold left; rw [h.asg_agr ht]; rfl
  · rw [hl]
    cases e : branch D (asg V tr) with
    | false => rfl
    | true => have := branch_not_agr e; rw [h.asg_agr ht] at this; cases this
/-- all variables have values and no clause is false: the values are the next assignment -/
theorem found {cl0 cl : List (List Int)} {wt : Int → List Nat} {CS : List (List Int)} (hU : ∀ A, A.length = V → (sat CS A = true ↔ sat cl0 A = true ∧ ∀ x ∈ U, litT A x = true))
    (h : EI V (fun A => A.length = V ∧ sat CS A = true) U cl0 D cl wt tr tr.length) (hall : ∀ v : Nat, 1 ≤ v → v ≤ V → (v : Int) ∈ tr ∨ -(v : Int) ∈ tr) :
    ((ext V []).filter (sat CS)).filter (left D) = asg V tr :: ((ext V []).filter (sat CS)).filter (branch D) ∧ agr D (asg V tr) = true ∧ sat CS (asg V tr) = true := by
  have ht := h.b.htr
  have hag := h.b.s.asg_agr ht
  have hsat : sat CS (asg V tr) = true := by
    rw [hU _ (asg_length _ _)]
    refine ⟨?_, fun x hx => asg_true ht (h.b.s.pre.subset hx)⟩
    rw [← sat_perm h.b.hperm]
    unfold sat
    rw [List.all_eq_true]
    intro c hc
    rw [List.any_eq_true]
    obtain ⟨h2, hn, hl⟩ := h.b.hcl c hc
    have hw := h.hwat
    rw [List.take_length] at hw
    have ha := List.getElem?_eq_getElem (l := c) (i := 0) (by omega)
    have hb := List.getElem?_eq_getElem (l := c) (i := 1) (by omega)
    have hwc := hw c hc _ _ ha hb
    have hma : c[0] ∈ c := List.getElem_mem _
    have hmb : c[1] ∈ c := List.getElem_mem _
    have h01 := hl _ hma
    have hv : c[0] ∈ tr ∨ -c[0] ∈ tr := by
      rcases hall (c[0]).natAbs (by omega) h01.2 with e | e
      · rcases Int.natAbs_eq c[0] with e2 | e2
        · rw [← e2] at e; exact .inl e
        · right; rw [e2, Int.neg_neg]; exact e
      · rcases Int.natAbs_eq c[0] with e2 | e2
        · right; rw [e2]; exact e
        · rw [← e2] at e; exact .inl e
    rcases hv with e | e
    · exact ⟨_, hma, asg_true ht e⟩
    · exact ⟨_, hmb, asg_true ht (hwc.1 e)⟩
  have hmem : asg V tr ∈ (ext V []).filter (sat CS) := List.mem_filter.2 ⟨ext_all _ _ (asg_length _ _), hsat⟩
  refine ⟨filter_head ((ext_sorted V []).filter _) hmem (fun A hA => ?_) (fun A hA hb => ?_), hag, hsat⟩
  · obtain ⟨hA1, hA2⟩ := List.mem_filter.1 hA
    have hlA : A.length = V := by have := ext_length hA1; simpa using this
    unfold left
    rw [Bool.or_eq_true]
    constructor
    · rintro (e | e)
      · left
        have hs := h.b.s.sound A ⟨hlA, hA2⟩ e
        apply List.ext_getElem?
        intro i
        rcases Nat.lt_or_ge i V with hi | hi
        · rw [getD_get (A := A) (by omega), getD_get (A := asg V tr) (by rw [asg_length]; exact hi)]
          congr 1
          have hj1 : i + 1 - 1 = i := by omega
          rcases hall (i + 1) (by omega) (by omega) with a | a
          · have a1 := hs _ a; have a2 := asg_true ht a
            rw [litT_var (by omega), hj1] at a1 a2
            rw [a1, a2]
          · have a1 := hs _ a; have a2 := asg_true ht a
            rw [litT_nvar (by omega), hj1] at a1 a2
            simp only [Bool.not_eq_true'] at a1 a2
            rw [a1, a2]
        · rw [List.getElem?_eq_none (by omega), List.getElem?_eq_none (by rw [asg_length]; omega)]
      · exact .inr e
    · rintro (rfl | e)
      · exact .inl hag
      · exact .inr e
  · obtain ⟨hA1, hA2⟩ := List.mem_filter.1 hA
    have hlA : A.length = V := by have := ext_length hA1; simpa using this
    obtain ⟨e, he, a0, a1, a2, a3, a4⟩ := branch_diff (fun A hA => hA.1) h.b.s ht ⟨hlA, hA2⟩ ⟨asg_length _ _, hsat⟩ hb hag
    exact ⟨e.v - 1, a2, a1, a4⟩
/-- a conflict: what is left but for what agrees -/
theorem left_conf {cl0 cl : List (List Int)} {wt : Int → List Nat} {CS Cs : List (List Int)} (hU : ∀ A, A.length = V → (sat CS A = true ↔ sat cl0 A = true ∧ ∀ x ∈ U, litT A x = true))
    (h : Conf V (Gr (fun A => A.length = V ∧ sat CS A = true) D) cl0 Cs cl wt tr) : ((ext V []).filter (sat CS)).filter (left D) = ((ext V []).filter (sat CS)).filter (branch D) := by
  refine List.filter_congr fun A hA => ?_
  obtain ⟨hA1, hA2⟩ := List.mem_filter.1 hA
  have hlA : A.length = V := by have := ext_length hA1; simpa using this
  unfold left
  rw [h.none (fun A hA => ((hU A hA.1).1 hA.2).1) ⟨hlA, hA2⟩, Bool.false_or]
end
/-- the least measure of what a relation says of a world -/
theorem rank_exists {α β : Type} (R : α → β → Prop) (μ : α → Nat) : ∃ m : β → Nat, ∀ w, (∃ s, R s w) → (∃ s, R s w ∧ μ s = m w) ∧ ∀ s, R s w → m w ≤ μ s := by
  have : ∀ w, ∃ n : Nat, (∃ s, R s w) → (∃ s, R s w ∧ μ s = n) ∧ ∀ s, R s w → n ≤ μ s := by
    intro w
    by_cases h : ∃ s, R s w
    · have key : ∀ n, (∃ s, R s w ∧ μ s ≤ n) → ∃ k, (∃ s, R s w ∧ μ s = k) ∧ ∀ s, R s w → k ≤ μ s := by
        intro n
        induction n with
        | zero =>
          rintro ⟨s, h1, h2⟩
          exact ⟨0, ⟨s, h1, by omega⟩, fun _ _ => Nat.zero_le _⟩
        | succ n ih =>
          rintro ⟨s, h1, h2⟩
          by_cases h3 : ∃ s, R s w ∧ μ s ≤ n
          · exact ih h3
          · refine ⟨n + 1, ⟨s, h1, ?_⟩, fun t ht => ?_⟩
            · rcases Nat.lt_or_ge n (μ s) with h4 | h4
              · omega
              · exact absurd ⟨s, h1, h4⟩ h3
            · rcases Nat.lt_or_ge n (μ t) with h4 | h4
              · omega
              · exact absurd ⟨t, ht, h4⟩ h3
      obtain ⟨s, hs⟩ := h
      obtain ⟨k, hk⟩ := key (μ s) ⟨s, hs, Nat.le_refl _⟩
      exact ⟨k, fun _ => hk⟩
    · exact ⟨0, fun h1 => absurd h1 h⟩
  exact Classical.skolem.1 this
end Go.Proofs.Sv
end
