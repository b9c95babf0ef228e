/- Contents of quadtree stores: kids, levels, trees. Nothing of a program. -/
import Derived.Test.YtgeomalefpjfdaaQs
namespace Go.Proofs.Qs
theorem lvl_kn {s : Int} {ls : List Int} {id : Int} (_ : 0 ≤ s) (h : 0 ≤ lvl s ls id) : 0 ≤ id ∧ id < s + ls.length := by
  unfold lvl at h
  by_cases h1 : id < 0
  · rw [if_pos h1] at h; omega
  · rw [if_neg h1] at h
    by_cases h2 : id < s
    · omega
    · rw [if_neg h2] at h
      by_cases h3 : id < s + ls.length
      · omega
      · rw [List.getD_eq_getElem?_getD, List.getElem?_eq_none (by omega)] at h
        simp at h
theorem lvl_tk {s : Int} {ns : List K4} {i : Nat} {id : Int} (h : id < s + i) : lvl s (levs s (ns.take i)) id = lvl s (levs s ns) id := by
  unfold lvl
  by_cases h1 : id < 0
  · rw [if_pos h1, if_pos h1]
  · rw [if_neg h1, if_neg h1]
    by_cases h2 : id < s
    · rw [if_pos h2, if_pos h2]
    · rw [if_neg h2, if_neg h2, ← levs_take, List.getD_eq_getElem?_getD, List.getD_eq_getElem?_getD, List.getElem?_take, if_pos (by omega)]
/-- the kids of a node of a good content are known, below it, of one level, which is one less -/
theorem good_kids {s : Int} {ns : List K4} (h : GoodQ s ns) {i : Nat} {k : K4} (hk : ns[i]? = some k) :
    (0 ≤ k.a ∧ k.a < s + i) ∧ (0 ≤ k.b ∧ k.b < s + i) ∧ (0 ≤ k.c ∧ k.c < s + i) ∧ (0 ≤ k.d ∧ k.d < s + i) := by
  have hs : 0 ≤ s := by have := h.1; omega
  have hi := (List.getElem?_eq_some_iff.1 hk).1
  obtain ⟨h0, h1, h2, h3, h4⟩ := h.2.2.2.2 i k hk
  have hl : (levs s (ns.take i)).length = i := by rw [levs_length, List.length_take]; omega
  have ka := lvl_kn hs h0
  have kb := lvl_kn hs (by rw [h2]; exact h0)
  have kc := lvl_kn hs (by rw [h3]; exact h0)
  have kd := lvl_kn hs (by rw [h4]; exact h0)
  rw [hl] at ka kb kc kd
  exact ⟨ka, kb, kc, kd⟩
theorem good_lvl {s : Int} {ns : List K4} (h : GoodQ s ns) {i : Nat} {k : K4} (hk : ns[i]? = some k) :
    lvl s (levs s ns) (s + i) = lvl s (levs s ns) k.a + 1 ∧ 0 ≤ lvl s (levs s ns) k.a ∧ lvl s (levs s ns) k.a < 256 ∧ lvl s (levs s ns) k.b = lvl s (levs s ns) k.a ∧ lvl s (levs s ns) k.c = lvl s (levs s ns) k.a ∧ lvl s (levs s ns) k.d = lvl s (levs s ns) k.a := by
  have hs := h.1
  have hi := (List.getElem?_eq_some_iff.1 hk).1
  obtain ⟨⟨_, ka⟩, ⟨_, kb⟩, ⟨_, kc⟩, ⟨_, kd⟩⟩ := good_kids h hk
  obtain ⟨h0, h1, h2, h3, h4⟩ := h.2.2.2.2 i k hk
  rw [lvl_tk ka] at h0 h1 h2 h3 h4
  rw [lvl_tk kb] at h2
  rw [lvl_tk kc] at h3
  rw [lvl_tk kd] at h4
  refine ⟨?_, h0, h1, h2, h3, h4⟩
  have e : (levs s ns)[i]? = some (lvl s (levs s (ns.take i)) k.a + 1) := by
    have h5 : levs s (ns.take (i + 1)) = levs s (ns.take i) ++ [lvl s (levs s (ns.take i)) k.a + 1] := by
      rw [List.take_add_one, hk]; exact levs_snoc s _ k
    have h6 := congrArg (fun l : List Int => l[i]?) h5
    rw [← levs_take, List.getElem?_take, if_pos (by omega), List.getElem?_append_right (by rw [levs_length, List.length_take]; omega), levs_length, List.length_take, Nat.min_eq_left (by omega), Nat.sub_self] at h6
    exact h6
  rw [lvl_tk ka] at e
  show (if s + (i : Int) < 0 then -1 else if s + (i : Int) < s then 0 else (levs s ns).getD (s + (i : Int) - s).toNat (-1)) = _
  rw [if_neg (by omega), if_neg (by omega), show (s + (i : Int) - s).toNat = i by omega, List.getD_eq_getElem?_getD, e]; rfl
/-! ### The cells of a node, as a tree -/
inductive Tr where
  | leaf (n : Int)
  | node (a b c d : Tr)
  deriving DecidableEq
def tget (s : Int) (l : List Tr) (id : Int) : Tr := if id < s then .leaf id else l.getD (id - s).toNat (.leaf 0)
def trs (s : Int) (ns : List K4) : List Tr := ns.foldl (fun l k => l ++ [.node (tget s l k.a) (tget s l k.b) (tget s l k.c) (tget s l k.d)]) []
theorem trs_snoc (s : Int) (ns : List K4) (k : K4) : trs s (ns ++ [k]) = trs s ns ++ [.node (tget s (trs s ns) k.a) (tget s (trs s ns) k.b) (tget s (trs s ns) k.c) (tget s (trs s ns) k.d)] := by simp [trs]
theorem trs_length (s : Int) (ns : List K4) : (trs s ns).length = ns.length := by
  rcases List.eq_nil_or_concat ns with rfl | ⟨l, x, rfl⟩
  · rfl
  · rw [List.concat_eq_append, trs_snoc]
    simp [trs_length s l]
termination_by ns.length
decreasing_by simp_all
theorem trs_take (s : Int) (ns : List K4) : ∀ i, (trs s ns).take i = trs s (ns.take i) := by
  intro i
  rcases List.eq_nil_or_concat ns with rfl | ⟨l, x, rfl⟩
  · simp [trs]
  · rw [List.concat_eq_append, trs_snoc]
    rcases Nat.lt_or_ge l.length i with h | h
    · rw [List.take_of_length_le (by simp [trs_length]; omega), List.take_of_length_le (by simp; omega), trs_snoc]
    · rw [List.take_append_of_le_length (by simp [trs_length]; omega), List.take_append_of_le_length h, trs_take s l i]
termination_by ns.length
decreasing_by simp_all
/-- the tree of a number -/
def tr (s : Int) (ns : List K4) (id : Int) : Tr := tget s (trs s ns) id
theorem tr_tk {s : Int} {ns : List K4} {i : Nat} {id : Int} (h : id < s + i) : tr s (ns.take i) id = tr s ns id := by
  unfold tr tget
  by_cases h2 : id < s
  · rw [if_pos h2, if_pos h2]
  · rw [if_neg h2, if_neg h2, ← trs_take, List.getD_eq_getElem?_getD, List.getD_eq_getElem?_getD, List.getElem?_take, if_pos (by omega)]
theorem tr_app {s : Int} {ns ms : List K4} {id : Int} (h : id < s + ns.length) : tr s (ns ++ ms) id = tr s ns id := by
  have := tr_tk (s := s) (ns := ns ++ ms) (i := ns.length) h
  rw [List.take_left'] at this
  · exact this.symm
  · rfl
theorem tr_leaf {s : Int} {ns : List K4} {id : Int} (h : id < s) : tr s ns id = .leaf id := by unfold tr tget; rw [if_pos h]
theorem tr_node {s : Int} {ns : List K4} (h : GoodQ s ns) {i : Nat} {k : K4} (hk : ns[i]? = some k) : tr s ns (s + i) = .node (tr s ns k.a) (tr s ns k.b) (tr s ns k.c) (tr s ns k.d) := by
  have hi := (List.getElem?_eq_some_iff.1 hk).1
  obtain ⟨⟨_, ka⟩, ⟨_, kb⟩, ⟨_, kc⟩, ⟨_, kd⟩⟩ := good_kids h hk
  have e : (trs s ns)[i]? = some (.node (tr s (ns.take i) k.a) (tr s (ns.take i) k.b) (tr s (ns.take i) k.c) (tr s (ns.take i) k.d)) := by
    have h5 : trs s (ns.take (i + 1)) = trs s (ns.take i) ++ [.node (tr s (ns.take i) k.a) (tr s (ns.take i) k.b) (tr s (ns.take i) k.c) (tr s (ns.take i) k.d)] := by
      rw [List.take_add_one, hk]; exact trs_snoc s _ k
    have h6 := congrArg (fun l : List Tr => l[i]?) h5
    rw [← trs_take, List.getElem?_take, if_pos (by omega), List.getElem?_append_right (by rw [trs_length, List.length_take]; omega), trs_length, List.length_take, Nat.min_eq_left (by omega), Nat.sub_self] at h6
    exact h6
  rw [tr_tk ka, tr_tk kb, tr_tk kc, tr_tk kd] at e
  show (if s + (i : Int) < s then Tr.leaf _ else (trs s ns).getD (s + (i : Int) - s).toNat _) = _
  rw [if_neg (by omega), show (s + (i : Int) - s).toNat = i by omega, List.getD_eq_getElem?_getD, e]; rfl
/-- is a number known? -/
def Kn (s : Int) (ns : List K4) (id : Int) : Prop := 0 ≤ id ∧ id < s + ns.length
instance (s : Int) (ns : List K4) (id : Int) : Decidable (Kn s ns id) := by unfold Kn; exact inferInstance
theorem Kn.cases {s : Int} {ns : List K4} {id : Int} (h : Kn s ns id) : (0 ≤ id ∧ id < s) ∨ ∃ i k, id = s + (i : Nat) ∧ ns[i]? = some k := by
  by_cases h1 : id < s
  · exact .inl ⟨h.1, h1⟩
  · right
    have := h.2
    exact ⟨(id - s).toNat, ns[(id - s).toNat]'(by omega), by omega, List.getElem?_eq_getElem _⟩
/-- equal trees in one content are one number -/
theorem tr_inj {s : Int} {ns : List K4} (h : GoodQ s ns) : ∀ (n : Nat) {x y : Int}, x < s + n → Kn s ns x → Kn s ns y → tr s ns x = tr s ns y → x = y
  | 0, x, y, hx, kx, ky, he => by
    rw [tr_leaf (by omega)] at he
    rcases ky.cases with ⟨_, hy⟩ | ⟨j, k, rfl, hk⟩
    · rw [tr_leaf hy] at he; cases he; rfl
    · rw [tr_node h hk] at he; cases he
  | n + 1, x, y, hx, kx, ky, he => by
    rcases kx.cases with ⟨_, hxs⟩ | ⟨i, k, rfl, hk⟩
    · exact tr_inj h n (by omega) kx ky he
    · rcases ky.cases with ⟨_, hy⟩ | ⟨j, l, rfl, hl⟩
      · rw [tr_leaf hy, tr_node h hk] at he; cases he
      · rw [tr_node h hk, tr_node h hl] at he
        injection he with e1 e2 e3 e4
        obtain ⟨a1, b1, c1, d1⟩ := good_kids h hk
        obtain ⟨a2, b2, c2, d2⟩ := good_kids h hl
        have hi := (List.getElem?_eq_some_iff.1 hk).1
        have hj := (List.getElem?_eq_some_iff.1 hl).1
        have f1 := tr_inj h n (by omega) ⟨a1.1, by omega⟩ ⟨a2.1, by omega⟩ e1
        have f2 := tr_inj h n (by omega) ⟨b1.1, by omega⟩ ⟨b2.1, by omega⟩ e2
        have f3 := tr_inj h n (by omega) ⟨c1.1, by omega⟩ ⟨c2.1, by omega⟩ e3
        have f4 := tr_inj h n (by omega) ⟨d1.1, by omega⟩ ⟨d2.1, by omega⟩ e4
        have hkl : k = l := by
          cases k; cases l
          simp only at f1 f2 f3 f4
          rw [f1, f2, f3, f4]
        subst hkl
        have := (List.getElem?_inj hi h.2.2.2.1).1 (hk.trans hl.symm)
        omega
/-- equal trees: the numbers' levels are equal -/
def Tr.ht : Tr → Nat
  | .leaf _ => 0
  | .node a _ _ _ => a.ht + 1
theorem lvl_ht {s : Int} {ns : List K4} (h : GoodQ s ns) : ∀ (n : Nat) {x : Int}, x < s + n → Kn s ns x → lvl s (levs s ns) x = (tr s ns x).ht
  | 0, x, hx, kx => by
    rw [tr_leaf (by omega)]
    unfold lvl
    rw [if_neg (by have := kx.1; omega), if_pos (by omega)]; rfl
  | n + 1, x, hx, kx => by
    rcases kx.cases with ⟨h0, hxs⟩ | ⟨i, k, rfl, hk⟩
    · rw [tr_leaf hxs]
      unfold lvl
      rw [if_neg (by omega), if_pos hxs]; rfl
    · obtain ⟨a1, _⟩ := good_kids h hk
      have hi := (List.getElem?_eq_some_iff.1 hk).1
      rw [tr_node h hk, (good_lvl h hk).1, lvl_ht h n (by omega) ⟨a1.1, by omega⟩]
      show _ = (((tr s ns k.a).ht + 1 : Nat) : Int)
      omega
theorem lvl_of_tr {s t : Int} {ns ms : List K4} (h : GoodQ s ns) (h' : GoodQ t ms) {x y : Int} (kx : Kn s ns x) (ky : Kn t ms y) (he : tr s ns x = tr t ms y) : lvl s (levs s ns) x = lvl t (levs t ms) y := by
  rw [lvl_ht h ns.length (by have := kx.2; omega) kx, lvl_ht h' ms.length (by have := ky.2; omega) ky, he]
theorem kn_lvl {s : Int} {ns : List K4} (h : GoodQ s ns) (id : Int) : 0 ≤ lvl s (levs s ns) id ↔ Kn s ns id := by
  constructor
  · intro hl
    have := lvl_kn (by have := h.1; omega) hl
    rwa [levs_length] at this
  · intro hk
    rw [lvl_ht h ns.length (by have := hk.2; omega) hk]; omega
end Go.Proofs.Qs
