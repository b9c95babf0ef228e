/- Own texts of this claim, part 21: no condition. -/
import Derived.Test.YtppmnmheodimoaaZM19
set_option linter.unusedVariables false
set_option linter.unusedSimpArgs false
section
/- Square tables of cells in the heap; fill of package memo. -/
namespace Go.Proofs.Ev
open Go.Proofs.Qs
set_option linter.unusedVariables false
set_option linter.unusedSimpArgs false
/-- a field with a tree's cells in a square -/
def paste (F : Fld) (n : Nat) (t : Tr) (x y : Int) : Fld := fun i j => if x ≤ i ∧ i < x + p2 n ∧ y ≤ j ∧ j < y + p2 n then cell n t (i - x) (j - y) else F i j
theorem paste_node (F : Fld) (n : Nat) (a b c d : Tr) (x y : Int) : paste (paste (paste (paste F n a x y) n b (x + p2 n) y) n c x (y + p2 n)) n d (x + p2 n) (y + p2 n) = paste F (n + 1) (.node a b c d) x y := by
  funext i j
  have hs := p2_succ n
  have hp := p2_pos n
  unfold paste
  by_cases h : x ≤ i ∧ i < x + p2 (n + 1) ∧ y ≤ j ∧ j < y + p2 (n + 1)
  · rw [if_pos h]
    show _ = (if j - y < p2 n then (if i - x < p2 n then cell n a (i - x) (j - y) else cell n b (i - x - p2 n) (j - y)) else (if i - x < p2 n then cell n c (i - x) (j - y - p2 n) else cell n d (i - x - p2 n) (j - y - p2 n)))
    by_cases hj : j - y < p2 n
    · by_cases hi : i - x < p2 n
      · rw [if_neg (by omega), if_neg (by omega), if_neg (by omega), if_pos (by omega), if_pos hj, if_pos hi]
      · rw [if_neg (by omega), if_neg (by omega), if_pos (by omega), if_pos hj, if_neg hi]
        congr 1; omega
    · by_cases hi : i - x < p2 n
      · rw [if_neg (by omega), if_pos (by omega), if_neg hj, if_pos hi]
        congr 1; omega
      · rw [if_pos (by omega), if_neg hj, if_neg hi]
        congr 1 <;> omega
  · rw [if_neg h, if_neg (by omega), if_neg (by omega), if_neg (by omega), if_neg (by omega)]
/-- one cell of a square that is set -/
theorem rowL_set {m : Nat} {F G : Fld} {y : Int} {k : Nat} {v : Int} (hk : k < m) (h : ∀ i : Nat, i < m → G i y = if i = k then v else F i y) : (rowL m F 0 y).set k v = rowL m G 0 y := by
  apply List.ext_getElem?
  intro i
  rw [List.getElem?_set]
  by_cases hi : i < m
  · rw [rowL_get hi, rowL_get hi, Int.zero_add, h i hi]
    by_cases e : k = i
    · subst e
      rw [if_pos rfl, if_pos (by rw [rowL_length]; exact hk), if_pos rfl]
    · rw [if_neg e, if_neg (Ne.symm e)]
  · rw [if_neg (by omega), List.getElem?_eq_none (by rw [rowL_length]; omega), List.getElem?_eq_none (by rw [rowL_length]; omega)]
end Go.Proofs.Ev
namespace Go.Proofs.Ytppmnmheodimoaa
open Go Go.RowKit Go.Proofs.Rg Go.Proofs.Mp Go.Proofs.Hp Go.Proofs.Qs Go.Proofs.Ev
set_option linter.unusedVariables false
def rowV (m : Nat) (b : Nat) : Value := .slice (some ⟨b, 0, none⟩) m m
/-- a square table: its outer block, its rows' blocks -/
def MatAt (w : World) (ob m : Nat) (bs : List Nat) (F : Fld) : Prop :=
  bs.length = m ∧ w.heap[ob]? = some (.cells (bs.map (rowV m)).toArray 71 (0, 0)) ∧ (∀ (i b : Nat), bs[i]? = some b → w.heap[b]? = some (Obj.cells (iv (rowL m F 0 i)).toArray 3 (0, 0))) ∧ bs.Nodup ∧ ob ∉ bs
def matR (ob m : Nat) (bs : List Nat) (F : Fld) : Res where
  holds w G := MatAt w ob m bs F ∧ G = ob :: bs
  keep := fun ⟨⟨h1, h2, h3, h4, h5⟩, h6⟩ hk => ⟨⟨h1, by rw [hk ob (by simp [h6])]; exact h2, fun i b hb => by rw [hk b (by rw [h6]; simp [List.mem_of_getElem? hb])]; exact h3 i b hb, h4, h5⟩, h6⟩
  lt := fun ⟨⟨h1, h2, h3, h4, h5⟩, h6⟩ x hx => by
    rw [h6, List.mem_cons] at hx
    rcases hx with rfl | hx
    · exact lt_of_block h2
    · obtain ⟨i, hi, rfl⟩ := List.mem_iff_getElem.1 hx
      exact lt_of_block (h3 i _ (List.getElem?_eq_getElem hi))
section
variable {W w : World} {ob m : Nat} {bs : List Nat} {F : Fld} {Ps : List Res}
theorem mat_row (h : Has W w (matR ob m bs F :: Ps)) {y : Nat} (hy : y < m) : ∃ b, bs[y]? = some b ∧ w.cell? ⟨ob, y, none⟩ = some (.slice (some ⟨b, 0, none⟩) m m) ∧ (∀ x : Nat, x < m → w.cell? ⟨b, x, none⟩ = some (.int .i64 (F x y))) ∧ (∀ x, w.frozen? ⟨b, x, none⟩ = false) ∧ b < w.heap.size ∧ ob < w.heap.size := by
  obtain ⟨_, ⟨⟨h1, h2, h3, h4, h5⟩, _⟩⟩ := h.head
  have hb : bs[y]? = some (bs[y]'(by omega)) := List.getElem?_eq_getElem (by omega)
  have hr := h3 y _ hb
  refine ⟨_, hb, ?_, fun x hx => ?_, fun x => heap_eq_frozen hr x, lt_of_block hr, lt_of_block h2⟩
  · rw [heap_eq_cell h2 y]
    simp [hb, rowV]
  · rw [heap_eq_cell hr x]
    have := iv_get (rowL_get (m := m) (F := F) (ox := 0) (y := y) hx)
    rw [Int.zero_add] at this
    simpa using this
/-- setting one cell -/
theorem mat_set (h : Has W w (matR ob m bs F :: Ps)) {y x b : Nat} (hx : x < m) (hb : bs[y]? = some b) {v : Int} {G : Fld} (hG : ∀ i j : Nat, G i j = if i = x ∧ j = y then v else F i j) : Has W (w.setCell ⟨b, x, none⟩ (.int .i64 v)) (matR ob m bs G :: Ps) :=
  h.turn fun H ⟨⟨h1, h2, h3, h4, h5⟩, h6⟩ => by
    have hbm : b ∈ bs := List.mem_of_getElem? hb
    refine ⟨H, ⟨⟨h1, ?_, fun i c hc => ?_, h4, h5⟩, h6⟩, (Fr.refl H w).setCell (.inl (by rw [h6]; simp [hbm])) _, fun z hz => .inl hz⟩
    · rw [heap_setCell_else _ _ _ _ (fun e : ob = b => h5 (by rw [e]; exact hbm))]; exact h2
    · by_cases e : c = b
      · subst e
        obtain rfl : i = y := by
          obtain ⟨hi, hi'⟩ := List.getElem?_eq_some_iff.1 hc
          exact (List.getElem?_inj hi h4).1 (hc.trans hb.symm)
        have := heap_setCell_here (h3 i c hc) x (.int .i64 v)
        rw [this, iv_setIf, rowL_set (G := G) hx fun k hk => ?_]
        rw [hG k i]
        simp
      · rw [heap_setCell_else _ _ _ _ e, h3 i c hc]
        congr 4
        refine List.map_congr_left fun k hk => ?_
        rw [Int.zero_add, hG k i, if_neg]
        rintro ⟨rfl, rfl⟩
        exact e (Option.some.inj (hc.symm.trans hb))
end
/-- what fill leaves -/
def FillPost (W : World) (r : Rule) (hv nv : Value) (mb sb rb : Nat) (ns : List K4) (mm : List ((Int × Int) × Int)) (ob m : Nat) (bs : List Nat) (F : Fld) (Ps : List Res) (e : Ending) (w' : World) : Prop :=
  e = .returned (.tuple #[]) ∧ Has W w' (memoL r hv nv mb sb rb ns mm (matR ob m bs F :: Ps))
theorem fill_zero {W w : World} {r : Rule} {hv nv : Value} {mb sb rb : Nat} {ns : List K4} {mm : List ((Int × Int) × Int)} {ob m : Nat} {bs : List Nat} {F : Fld} {Ps : List Res} (h : Has W w (memoL r hv nv mb sb rb ns mm (matR ob m bs F :: Ps))) {id : Int} {t : Tr} (hi : Is r.S ns 0 id t) {x y : Nat} (hx : x < m) (hy : y < m) (hm : m ≤ 1000) :
    Calls Try.prog 81 #[.pointer (some ⟨mb, 0, none⟩), .int .i64 id, .int .i64 0, .int .i64 x, .int .i64 y, .slice (some ⟨ob, 0, none⟩) m m] w (FillPost W r hv nv mb sb rb ns mm ob m bs (paste F 0 t x y) Ps) := by
  obtain ⟨_, _, rfl⟩ := hi.zero (has_good h)
  obtain ⟨b, hb, c0, c1, cz, cl, ol⟩ := mat_row h.fourth hy
  have c1 := c1 x hx
  have cz := cz x
  have HF := Lib.hid (mat_set h.fourth hx hb (v := id) (G := paste F 0 (.leaf id) x y) fun i j => by
    unfold paste
    rw [p2_zero]
    by_cases e : i = x ∧ j = y
    · rw [if_pos e, if_pos (by omega)]; rfl
    · rw [if_neg e, if_neg (by omega)]).back4
  clear h hi hb
  go_enter Try.func81, Try.ntmps81
  go_wp2
  refine bodyPost_ret (v := .tuple #[]) (by simp [results, Try.results81, go_sem]) rfl ?_
  exact ⟨rfl, HF.out⟩
end Go.Proofs.Ytppmnmheodimoaa
end

section
/- fill of package memo: the cells of a small node in a square table. -/
namespace Go.Proofs.Ytppmnmheodimoaa
open Go Go.RowKit Go.Proofs.Rg Go.Proofs.Mp Go.Proofs.Hp Go.Proofs.Qs Go.Proofs.Ev
set_option linter.unusedVariables false
set_option linter.unusedSimpArgs false
def FillAt (W : World) (r : Rule) (hv nv : Value) (mb sb rb : Nat) (ns : List K4) (mm : List ((Int × Int) × Int)) (ob m : Nat) (bs : List Nat) (Ps : List Res) (n : Nat) : Prop :=
  ∀ (w : World) (F : Fld) (id : Int) (t : Tr) (x y : Nat) (z zx zy : Int), z = n → zx = x → zy = y → Has W w (memoL r hv nv mb sb rb ns mm (matR ob m bs F :: Ps)) → Is r.S ns n id t → x + 2 ^ n ≤ m → y + 2 ^ n ≤ m →
    Calls Try.prog 81 #[.pointer (some ⟨mb, 0, none⟩), .int .i64 id, .int .i64 z, .int .i64 zx, .int .i64 zy, .slice (some ⟨ob, 0, none⟩) m m] w (FillPost W r hv nv mb sb rb ns mm ob m bs (paste F n t x y) Ps)
section
variable {W : World} {r : Rule} {hv nv : Value} {mb sb rb : Nat} {ns : List K4} {mm : List ((Int × Int) × Int)} {ob m : Nat} {bs : List Nat} {Ps : List Res}
theorem fillAt_zero (hm : m ≤ 1000) : FillAt W r hv nv mb sb rb ns mm ob m bs Ps 0 := by
  intro w F id t x y z zx zy hz hx hy h hi h1 h2
  subst hz
  subst hx
  subst hy
  exact fill_zero h hi (by omega) (by omega) hm
/-- the table behind q of the four quadrants -/
def qpaste (F : Fld) (n : Nat) (t : Tr) (x y : Int) : Nat → Fld
  | 0 => F
  | q + 1 => paste (qpaste F n t x y q) n (Tr.q t q) (x + (q % 2 : Nat) * p2 n) (y + (q / 2 : Nat) * p2 n)
theorem qpaste_four {F : Fld} {n : Nat} {t : Tr} {x y : Int} (ht : Full (n + 1) t) : qpaste F n t x y 4 = paste F (n + 1) t x y := by
  match t, ht with
  | .node a b c d, _ =>
    rw [← paste_node]
    show paste (paste (paste (paste F n a (x + 0 * p2 n) (y + 0 * p2 n)) n b (x + 1 * p2 n) (y + 0 * p2 n)) n c (x + 0 * p2 n) (y + 1 * p2 n)) n d (x + 1 * p2 n) (y + 1 * p2 n) = _
    simp only [Int.zero_mul, Int.one_mul, Int.add_zero]
theorem fill_next {w : World} {F : Fld} {n q : Nat} {t : Tr} {x y a b : Nat} (h : Has W w (memoL r hv nv mb sb rb ns mm (matR ob m bs (paste (qpaste F n t x y q) n (Tr.q t q) a b) :: Ps))) (ha : a = x + q % 2 * 2 ^ n) (hb : b = y + q / 2 * 2 ^ n) : Has W w (memoL r hv nv mb sb rb ns mm (matR ob m bs (qpaste F n t x y (q + 1)) :: Ps)) := by
  subst ha
  subst hb
  have e : qpaste F n t x y (q + 1) = paste (qpaste F n t x y q) n (Tr.q t q) ((x + q % 2 * 2 ^ n : Nat) : Int) ((y + q / 2 * 2 ^ n : Nat) : Int) := by
    show paste (qpaste F n t x y q) n (Tr.q t q) ((x : Int) + (q % 2 : Nat) * p2 n) ((y : Int) + (q / 2 : Nat) * p2 n) = _
    unfold p2
    rw [Int.natCast_add, Int.natCast_mul, Int.natCast_add, Int.natCast_mul]
  rw [e]
  exact h
set_option maxHeartbeats 8000000 in
set_option maxRecDepth 100000 in
theorem fillAt_one (hm : m ≤ 1000) (ih : FillAt W r hv nv mb sb rb ns mm ob m bs Ps 0) : FillAt W r hv nv mb sb rb ns mm ob m bs Ps (0 + 1) := by
  intro w F id t x y z zx zy hz hx hy h hi h1 h2
  obtain rfl : z = 1 := by rw [hz]; rfl
  subst hx
  subst hy
  simp only [show (2 : Nat) ^ (0 + 1) = 2 by decide] at h1 h2
  obtain ⟨_, _, hk⟩ := hi.node (has_good h)
  have HK1 := Lib.hid (fun w1 (h1 : Has W w1 (memoL r hv nv mb sb rb ns mm (matR ob m bs F :: Ps))) => Kids_has h1 hi)
  have HK := Lib.hid hk
  have HQ := Lib.hid (qpaste_four (F := F) (x := x) (y := y) hi.2.2.1)
  obtain ⟨_, _, _, m3, _, _, ml⟩ := memo_cells h
  have H := Lib.hid h
  clear h hk hi hz
  go_enter Try.func81, Try.ntmps81
  go_wp2_with fail
  refine (HK1.out _ H.out).mono ?_
  rintro e w3 ⟨rfl, h, hf⟩
  have H3 := Lib.hid h
  clear h hf H m3 ml
  go_wp2
  go_loopw [39] (fun x' wr => ∃ z : Int, x' = .int .i64 z ∧ At5 (fun q => Has W wr (memoL r hv nv mb sb rb ns mm (matR ob m bs (qpaste F 0 t x y q) :: Ps))) z) (fun x _ => 4 - (intOf x).toNat)
  case atStart => exact ⟨0, rfl, .inl ⟨rfl, H3.out.step ((Fr.refl [] w3).alloc _)⟩⟩
  case round =>
    obtain ⟨z, rfl, hz⟩ := hrel
    clear H3
    rcases hz with ⟨rfl, h⟩ | ⟨rfl, h⟩ | ⟨rfl, h⟩ | ⟨rfl, h⟩ | ⟨rfl, h⟩
    ·
      have H := Lib.hid h
      obtain ⟨_, _, _, m3, _, _, ml⟩ := memo_cells h
      clear h
      have HC := Lib.hid (fun (z zx zy : Int) (e1 : z = ((0 : Nat) : Int)) (e2 : zx = ((x + 0 % 2 * 2 ^ 0 : Nat) : Int)) (e3 : zy = ((y + 0 / 2 * 2 ^ 0 : Nat) : Int)) => ih _ _ _ _ _ _ z zx zy e1 e2 e3 H.out (HK.out 0 (by omega)) (by omega) (by omega))
      go_wp2_with fail
      refine (HC.out _ _ _ (by omega) (by simp; try omega) (by simp; try omega)).mono ?_
      rintro e w5 ⟨rfl, h⟩
      have H5 := Lib.hid h
      clear h HC m3 ml H
      go_wp2
      go_roundw
      case rel => exact ⟨1, rfl, (.inr (.inl ⟨rfl, fill_next H5.out rfl rfl⟩))⟩
      case measure => simp [intOf]
    ·
      have H := Lib.hid h
      obtain ⟨_, _, _, m3, _, _, ml⟩ := memo_cells h
      clear h
      have HC := Lib.hid (fun (z zx zy : Int) (e1 : z = ((0 : Nat) : Int)) (e2 : zx = ((x + 1 % 2 * 2 ^ 0 : Nat) : Int)) (e3 : zy = ((y + 1 / 2 * 2 ^ 0 : Nat) : Int)) => ih _ _ _ _ _ _ z zx zy e1 e2 e3 H.out (HK.out 1 (by omega)) (by omega) (by omega))
      go_wp2_with fail
      refine (HC.out _ _ _ (by omega) (by simp; try omega) (by simp; try omega)).mono ?_
      rintro e w5 ⟨rfl, h⟩
      have H5 := Lib.hid h
      clear h HC m3 ml H
      go_wp2
      go_roundw
      case rel => exact ⟨2, rfl, (.inr (.inr (.inl ⟨rfl, fill_next H5.out rfl rfl⟩)))⟩
      case measure => simp [intOf]
    ·
      have H := Lib.hid h
      obtain ⟨_, _, _, m3, _, _, ml⟩ := memo_cells h
      clear h
      have HC := Lib.hid (fun (z zx zy : Int) (e1 : z = ((0 : Nat) : Int)) (e2 : zx = ((x + 2 % 2 * 2 ^ 0 : Nat) : Int)) (e3 : zy = ((y + 2 / 2 * 2 ^ 0 : Nat) : Int)) => ih _ _ _ _ _ _ z zx zy e1 e2 e3 H.out (HK.out 2 (by omega)) (by omega) (by omega))
      go_wp2_with fail
      refine (HC.out _ _ _ (by omega) (by simp; try omega) (by simp; try omega)).mono ?_
      rintro e w5 ⟨rfl, h⟩
      have H5 := Lib.hid h
      clear h HC m3 ml H
      go_wp2
      go_roundw
      case rel => exact ⟨3, rfl, (.inr (.inr (.inr (.inl ⟨rfl, fill_next H5.out rfl rfl⟩))))⟩
      case measure => simp [intOf]
    ·
      have H := Lib.hid h
      obtain ⟨_, _, _, m3, _, _, ml⟩ := memo_cells h
      clear h
      have HC := Lib.hid (fun (z zx zy : Int) (e1 : z = ((0 : Nat) : Int)) (e2 : zx = ((x + 3 % 2 * 2 ^ 0 : Nat) : Int)) (e3 : zy = ((y + 3 / 2 * 2 ^ 0 : Nat) : Int)) => ih _ _ _ _ _ _ z zx zy e1 e2 e3 H.out (HK.out 3 (by omega)) (by omega) (by omega))
      go_wp2_with fail
      refine (HC.out _ _ _ (by omega) (by simp; try omega) (by simp; try omega)).mono ?_
      rintro e w5 ⟨rfl, h⟩
      have H5 := Lib.hid h
      clear h HC m3 ml H
      go_wp2
      go_roundw
      case rel => exact ⟨4, rfl, (.inr (.inr (.inr (.inr ⟨rfl, fill_next H5.out rfl rfl⟩))))⟩
      case measure => simp [intOf]
    · have H := Lib.hid h
      clear h
      go_wp2
      refine bodyPost_ret (v := .tuple #[]) (by simp [results, Try.results81, go_sem]) rfl ?_
      refine ⟨rfl, ?_⟩
      rw [← HQ.out]
      exact H.out
set_option maxHeartbeats 8000000 in
set_option maxRecDepth 100000 in
theorem fillAt_two (hm : m ≤ 1000) (ih : FillAt W r hv nv mb sb rb ns mm ob m bs Ps 1) : FillAt W r hv nv mb sb rb ns mm ob m bs Ps (1 + 1) := by
  intro w F id t x y z zx zy hz hx hy h hi h1 h2
  obtain rfl : z = 2 := by rw [hz]; rfl
  subst hx
  subst hy
  simp only [show (2 : Nat) ^ (1 + 1) = 4 by decide] at h1 h2
  obtain ⟨_, _, hk⟩ := hi.node (has_good h)
  have HK1 := Lib.hid (fun w1 (h1 : Has W w1 (memoL r hv nv mb sb rb ns mm (matR ob m bs F :: Ps))) => Kids_has h1 hi)
  have HK := Lib.hid hk
  have HQ := Lib.hid (qpaste_four (F := F) (x := x) (y := y) hi.2.2.1)
  obtain ⟨_, _, _, m3, _, _, ml⟩ := memo_cells h
  have H := Lib.hid h
  clear h hk hi hz
  go_enter Try.func81, Try.ntmps81
  go_wp2_with fail
  refine (HK1.out _ H.out).mono ?_
  rintro e w3 ⟨rfl, h, hf⟩
  have H3 := Lib.hid h
  clear h hf H m3 ml
  go_wp2
  go_loopw [39] (fun x' wr => ∃ z : Int, x' = .int .i64 z ∧ At5 (fun q => Has W wr (memoL r hv nv mb sb rb ns mm (matR ob m bs (qpaste F 1 t x y q) :: Ps))) z) (fun x _ => 4 - (intOf x).toNat)
  case atStart => exact ⟨0, rfl, .inl ⟨rfl, H3.out.step ((Fr.refl [] w3).alloc _)⟩⟩
  case round =>
    obtain ⟨z, rfl, hz⟩ := hrel
    clear H3
    rcases hz with ⟨rfl, h⟩ | ⟨rfl, h⟩ | ⟨rfl, h⟩ | ⟨rfl, h⟩ | ⟨rfl, h⟩
    ·
      have H := Lib.hid h
      obtain ⟨_, _, _, m3, _, _, ml⟩ := memo_cells h
      clear h
      have HC := Lib.hid (fun (z zx zy : Int) (e1 : z = ((1 : Nat) : Int)) (e2 : zx = ((x + 0 % 2 * 2 ^ 1 : Nat) : Int)) (e3 : zy = ((y + 0 / 2 * 2 ^ 1 : Nat) : Int)) => ih _ _ _ _ _ _ z zx zy e1 e2 e3 H.out (HK.out 0 (by omega)) (by omega) (by omega))
      go_wp2_with fail
      refine (HC.out _ _ _ (by omega) (by simp; try omega) (by simp; try omega)).mono ?_
      rintro e w5 ⟨rfl, h⟩
      have H5 := Lib.hid h
      clear h HC m3 ml H
      go_wp2
      go_roundw
      case rel => exact ⟨1, rfl, (.inr (.inl ⟨rfl, fill_next H5.out rfl rfl⟩))⟩
      case measure => simp [intOf]
    ·
      have H := Lib.hid h
      obtain ⟨_, _, _, m3, _, _, ml⟩ := memo_cells h
      clear h
      have HC := Lib.hid (fun (z zx zy : Int) (e1 : z = ((1 : Nat) : Int)) (e2 : zx = ((x + 1 % 2 * 2 ^ 1 : Nat) : Int)) (e3 : zy = ((y + 1 / 2 * 2 ^ 1 : Nat) : Int)) => ih _ _ _ _ _ _ z zx zy e1 e2 e3 H.out (HK.out 1 (by omega)) (by omega) (by omega))
      go_wp2_with fail
      refine (HC.out _ _ _ (by omega) (by simp; try omega) (by simp; try omega)).mono ?_
      rintro e w5 ⟨rfl, h⟩
      have H5 := Lib.hid h
      clear h HC m3 ml H
      go_wp2
      go_roundw
      case rel => exact ⟨2, rfl, (.inr (.inr (.inl ⟨rfl, fill_next H5.out rfl rfl⟩)))⟩
      case measure => simp [intOf]
    ·
      have H := Lib.hid h
      obtain ⟨_, _, _, m3, _, _, ml⟩ := memo_cells h
      clear h
      have HC := Lib.hid (fun (z zx zy : Int) (e1 : z = ((1 : Nat) : Int)) (e2 : zx = ((x + 2 % 2 * 2 ^ 1 : Nat) : Int)) (e3 : zy = ((y + 2 / 2 * 2 ^ 1 : Nat) : Int)) => ih _ _ _ _ _ _ z zx zy e1 e2 e3 H.out (HK.out 2 (by omega)) (by omega) (by omega))
      go_wp2_with fail
      refine (HC.out _ _ _ (by omega) (by simp; try omega) (by simp; try omega)).mono ?_
      rintro e w5 ⟨rfl, h⟩
      have H5 := Lib.hid h
      clear h HC m3 ml H
      go_wp2
      go_roundw
      case rel => exact ⟨3, rfl, (.inr (.inr (.inr (.inl ⟨rfl, fill_next H5.out rfl rfl⟩))))⟩
      case measure => simp [intOf]
    ·
      have H := Lib.hid h
      obtain ⟨_, _, _, m3, _, _, ml⟩ := memo_cells h
      clear h
      have HC := Lib.hid (fun (z zx zy : Int) (e1 : z = ((1 : Nat) : Int)) (e2 : zx = ((x + 3 % 2 * 2 ^ 1 : Nat) : Int)) (e3 : zy = ((y + 3 / 2 * 2 ^ 1 : Nat) : Int)) => ih _ _ _ _ _ _ z zx zy e1 e2 e3 H.out (HK.out 3 (by omega)) (by omega) (by omega))
      go_wp2_with fail
      refine (HC.out _ _ _ (by omega) (by simp; try omega) (by simp; try omega)).mono ?_
      rintro e w5 ⟨rfl, h⟩
      have H5 := Lib.hid h
      clear h HC m3 ml H
      go_wp2
      go_roundw
      case rel => exact ⟨4, rfl, (.inr (.inr (.inr (.inr ⟨rfl, fill_next H5.out rfl rfl⟩))))⟩
      case measure => simp [intOf]
    · have H := Lib.hid h
      clear h
      go_wp2
      refine bodyPost_ret (v := .tuple #[]) (by simp [results, Try.results81, go_sem]) rfl ?_
      refine ⟨rfl, ?_⟩
      rw [← HQ.out]
      exact H.out
set_option maxHeartbeats 8000000 in
set_option maxRecDepth 100000 in
theorem fillAt_three (hm : m ≤ 1000) (ih : FillAt W r hv nv mb sb rb ns mm ob m bs Ps 2) : FillAt W r hv nv mb sb rb ns mm ob m bs Ps (2 + 1) := by
  intro w F id t x y z zx zy hz hx hy h hi h1 h2
  obtain rfl : z = 3 := by rw [hz]; rfl
  subst hx
  subst hy
  simp only [show (2 : Nat) ^ (2 + 1) = 8 by decide] at h1 h2
  obtain ⟨_, _, hk⟩ := hi.node (has_good h)
  have HK1 := Lib.hid (fun w1 (h1 : Has W w1 (memoL r hv nv mb sb rb ns mm (matR ob m bs F :: Ps))) => Kids_has h1 hi)
  have HK := Lib.hid hk
  have HQ := Lib.hid (qpaste_four (F := F) (x := x) (y := y) hi.2.2.1)
  obtain ⟨_, _, _, m3, _, _, ml⟩ := memo_cells h
  have H := Lib.hid h
  clear h hk hi hz
  go_enter Try.func81, Try.ntmps81
  go_wp2_with fail
  refine (HK1.out _ H.out).mono ?_
  rintro e w3 ⟨rfl, h, hf⟩
  have H3 := Lib.hid h
  clear h hf H m3 ml
  go_wp2
  go_loopw [39] (fun x' wr => ∃ z : Int, x' = .int .i64 z ∧ At5 (fun q => Has W wr (memoL r hv nv mb sb rb ns mm (matR ob m bs (qpaste F 2 t x y q) :: Ps))) z) (fun x _ => 4 - (intOf x).toNat)
  case atStart => exact ⟨0, rfl, .inl ⟨rfl, H3.out.step ((Fr.refl [] w3).alloc _)⟩⟩
  case round =>
    obtain ⟨z, rfl, hz⟩ := hrel
    clear H3
    rcases hz with ⟨rfl, h⟩ | ⟨rfl, h⟩ | ⟨rfl, h⟩ | ⟨rfl, h⟩ | ⟨rfl, h⟩
    ·
      have H := Lib.hid h
      obtain ⟨_, _, _, m3, _, _, ml⟩ := memo_cells h
      clear h
      have HC := Lib.hid (fun (z zx zy : Int) (e1 : z = ((2 : Nat) : Int)) (e2 : zx = ((x + 0 % 2 * 2 ^ 2 : Nat) : Int)) (e3 : zy = ((y + 0 / 2 * 2 ^ 2 : Nat) : Int)) => ih _ _ _ _ _ _ z zx zy e1 e2 e3 H.out (HK.out 0 (by omega)) (by omega) (by omega))
      go_wp2_with fail
      refine (HC.out _ _ _ (by omega) (by simp; try omega) (by simp; try omega)).mono ?_
      rintro e w5 ⟨rfl, h⟩
      have H5 := Lib.hid h
      clear h HC m3 ml H
      go_wp2
      go_roundw
      case rel => exact ⟨1, rfl, (.inr (.inl ⟨rfl, fill_next H5.out rfl rfl⟩))⟩
      case measure => simp [intOf]
    ·
      have H := Lib.hid h
      obtain ⟨_, _, _, m3, _, _, ml⟩ := memo_cells h
      clear h
      have HC := Lib.hid (fun (z zx zy : Int) (e1 : z = ((2 : Nat) : Int)) (e2 : zx = ((x + 1 % 2 * 2 ^ 2 : Nat) : Int)) (e3 : zy = ((y + 1 / 2 * 2 ^ 2 : Nat) : Int)) => ih _ _ _ _ _ _ z zx zy e1 e2 e3 H.out (HK.out 1 (by omega)) (by omega) (by omega))
      go_wp2_with fail
      refine (HC.out _ _ _ (by omega) (by simp; try omega) (by simp; try omega)).mono ?_
      rintro e w5 ⟨rfl, h⟩
      have H5 := Lib.hid h
      clear h HC m3 ml H
      go_wp2
      go_roundw
      case rel => exact ⟨2, rfl, (.inr (.inr (.inl ⟨rfl, fill_next H5.out rfl rfl⟩)))⟩
      case measure => simp [intOf]
    ·
      have H := Lib.hid h
      obtain ⟨_, _, _, m3, _, _, ml⟩ := memo_cells h
      clear h
      have HC := Lib.hid (fun (z zx zy : Int) (e1 : z = ((2 : Nat) : Int)) (e2 : zx = ((x + 2 % 2 * 2 ^ 2 : Nat) : Int)) (e3 : zy = ((y + 2 / 2 * 2 ^ 2 : Nat) : Int)) => ih _ _ _ _ _ _ z zx zy e1 e2 e3 H.out (HK.out 2 (by omega)) (by omega) (by omega))
      go_wp2_with fail
      refine (HC.out _ _ _ (by omega) (by simp; try omega) (by simp; try omega)).mono ?_
      rintro e w5 ⟨rfl, h⟩
      have H5 := Lib.hid h
      clear h HC m3 ml H
      go_wp2
      go_roundw
      case rel => exact ⟨3, rfl, (.inr (.inr (.inr (.inl ⟨rfl, fill_next H5.out rfl rfl⟩))))⟩
      case measure => simp [intOf]
    ·
      have H := Lib.hid h
      obtain ⟨_, _, _, m3, _, _, ml⟩ := memo_cells h
      clear h
      have HC := Lib.hid (fun (z zx zy : Int) (e1 : z = ((2 : Nat) : Int)) (e2 : zx = ((x + 3 % 2 * 2 ^ 2 : Nat) : Int)) (e3 : zy = ((y + 3 / 2 * 2 ^ 2 : Nat) : Int)) => ih _ _ _ _ _ _ z zx zy e1 e2 e3 H.out (HK.out 3 (by omega)) (by omega) (by omega))
      go_wp2_with fail
      refine (HC.out _ _ _ (by omega) (by simp; try omega) (by simp; try omega)).mono ?_
      rintro e w5 ⟨rfl, h⟩
      have H5 := Lib.hid h
      clear h HC m3 ml H
      go_wp2
      go_roundw
      case rel => exact ⟨4, rfl, (.inr (.inr (.inr (.inr ⟨rfl, fill_next H5.out rfl rfl⟩))))⟩
      case measure => simp [intOf]
    · have H := Lib.hid h
      clear h
      go_wp2
      refine bodyPost_ret (v := .tuple #[]) (by simp [results, Try.results81, go_sem]) rfl ?_
      refine ⟨rfl, ?_⟩
      rw [← HQ.out]
      exact H.out
end
end Go.Proofs.Ytppmnmheodimoaa
end
