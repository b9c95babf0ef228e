/- Own texts of this claim, part 22: no condition. -/
import Derived.Test.YtppmnmheodimoaaZM20
section
/- square of package memo: the node of cells of a square table. -/
namespace Go.Proofs.Ev
open Go.Proofs.Qs
set_option linter.unusedVariables false
set_option linter.unusedSimpArgs false
theorem subs_mk_part {n : Nat} {F : Fld} {x y : Int} {q : Nat} (hq : q < 4) {u : Tr} (hu : u ∈ subs (mk n F (x + (q % 2 : Nat) * p2 n) (y + (q / 2 : Nat) * p2 n))) : u ∈ subs (mk (n + 1) F x y) := by
  show u ∈ subs (mk n F x y) ++ subs (mk n F (x + p2 n) y) ++ subs (mk n F x (y + p2 n)) ++ subs (mk n F (x + p2 n) (y + p2 n)) ++ [_]
  simp only [List.mem_append]
  match q, hq with
  | 0, _ => simp only [Nat.zero_mod, Nat.zero_div, Int.natCast_zero, Int.zero_mul, Int.add_zero] at hu; exact .inl (.inl (.inl (.inl hu)))
  | 1, _ => rw [show ((1 % 2 : Nat) : Int) * p2 n = p2 n by simp, show ((1 / 2 : Nat) : Int) * p2 n = 0 by simp, Int.add_zero] at hu; exact .inl (.inl (.inl (.inr hu)))
  | 2, _ => rw [show ((2 % 2 : Nat) : Int) * p2 n = 0 by simp, show ((2 / 2 : Nat) : Int) * p2 n = p2 n by simp, Int.add_zero] at hu; exact .inl (.inl (.inr hu))
  | 3, _ => rw [show ((3 % 2 : Nat) : Int) * p2 n = p2 n by simp] at hu; exact .inl (.inr hu)
theorem subs_mk_self {n : Nat} {F : Fld} {x y : Int} : mk (n + 1) F x y ∈ subs (mk (n + 1) F x y) := by
  show _ ∈ _ ++ [mk (n + 1) F x y]
  simp
end Go.Proofs.Ev
namespace Go.Proofs.Ytppmnmheodimoaa
open Go Go.RowKit Go.Proofs.Rg Go.Proofs.Mp Go.Proofs.Hp Go.Proofs.Qs Go.Proofs.Ev
set_option linter.unusedVariables false
/-- what square leaves -/
def SquarePost (W : World) (r : Rule) (hv nv : Value) (mb sb rb : Nat) (L : List Tr) (ns : List K4) (mm : List ((Int × Int) × Int)) (T : Tr) (n : Nat) (Ps : List Res) (e : Ending) (w' : World) : Prop :=
  ∃ res ns', e = .returned (.tuple #[.int .i64 res, .int .i64 0]) ∧ Has W w' (memoL r hv nv mb sb rb ns' mm Ps) ∧ ns <+: ns' ∧ room r.S ns' L ∧ Is r.S ns' n res T
def SquareAt (W : World) (r : Rule) (hv nv : Value) (mb sb rb : Nat) (L : List Tr) (mm : List ((Int × Int) × Int)) (ob m : Nat) (bs : List Nat) (F : Fld) (n : Nat) : Prop :=
  ∀ (w : World) (Ps : List Res) (ns : List K4) (x y : Nat) (z zx zy : Int), z = n → zx = x → zy = y → Has W w (memoL r hv nv mb sb rb ns mm (matR ob m bs F :: Ps)) → room r.S ns L → x + 2 ^ n ≤ m → y + 2 ^ n ≤ m →
    (∀ i j : Nat, x ≤ i → i < x + 2 ^ n → y ≤ j → j < y + 2 ^ n → 0 ≤ F i j ∧ F i j < r.S) → (∀ u ∈ subs (mk n F x y), u ∈ L) →
    Calls Try.prog 82 #[.pointer (some ⟨mb, 0, none⟩), .slice (some ⟨ob, 0, none⟩) m m, .int .i64 z, .int .i64 zx, .int .i64 zy] w (SquarePost W r hv nv mb sb rb L ns mm (mk n F x y) n (matR ob m bs F :: Ps))
section
variable {W : World} {r : Rule} {hv nv : Value} {mb sb rb : Nat} {L : List Tr} {mm : List ((Int × Int) × Int)} {ob m : Nat} {bs : List Nat} {F : Fld}
theorem squareAt_zero (hm : m ≤ 1000) : SquareAt W r hv nv mb sb rb L mm ob m bs F 0 := by
  intro w Ps ns x y z zx zy hz hx hy h hr h1 h2 hF hL
  subst hz
  subst hx
  subst hy
  have hv0 := hF x y (by omega) (by omega) (by omega) (by omega)
  obtain ⟨b, hb, c0, c1, cz, cl, ol⟩ := mat_row h.fourth (y := y) (by omega)
  have c1 := c1 x (by omega)
  have HI := Lib.hid (Is.leaf (ns := ns) hv0.1 hv0.2)
  have H := Lib.hid h
  have HR := Lib.hid hr
  have h1' : x < m := by omega
  have h2' : y < m := by omega
  clear hv0 h hF hL cz hb hr h1 h2
  go_enter Try.func82, Try.ntmps82
  go_wp2
  go_ret2
  exact ⟨F x y, ns, rfl, H.out, List.prefix_refl _, HR.out, HI.out⟩
/-- the four quadrants while they are found -/
structure SqSt (W wr : World) (r : Rule) (hv nv : Value) (mb sb rb : Nat) (L : List Tr) (ns0 : List K4) (mm : List ((Int × Int) × Int)) (Ps : List Res) (n : Nat) (F : Fld) (x y : Int) (qb : Nat) (ns : List K4) (O : List Int) (m : Nat) : Prop where
  has : Has W wr (memoL r hv nv mb sb rb ns mm (Hp.blk qb (.cells (iv O).toArray 75 (0, 0)) :: Ps))
  len : O.length = 4
  pre : ns0 <+: ns
  room : Qs.room r.S ns L
  done : ∀ j, j < m → Is r.S ns n (O.getD j 0) (mk n F (x + (j % 2 : Nat) * p2 n) (y + (j / 2 : Nat) * p2 n))
theorem SqSt.put {wr wr' : World} {ns0 ns ns' : List K4} {Ps : List Res} {n qb k : Nat} {x y : Int} {O : List Int} (h : SqSt W wr r hv nv mb sb rb L ns0 mm Ps n F x y qb ns O k) (hm : k < 4) {v : Int} {a b : Int}
    (hh : Has W wr' (memoL r hv nv mb sb rb ns' mm (Hp.blk qb (.cells (iv O).toArray 75 (0, 0)) :: Ps))) (hp : ns <+: ns') (hr : Qs.room r.S ns' L) (hv' : Is r.S ns' n v (Go.Proofs.Ev.mk n F a b)) (ha : a = x + (k % 2 : Nat) * p2 n) (hb : b = y + (k / 2 : Nat) * p2 n) :
    SqSt W (wr'.setCell ⟨qb, k, none⟩ (.int .i64 v)) r hv nv mb sb rb L ns0 mm Ps n F x y qb ns' (O.set k v) (k + 1) where
  has := by
    have := (has_set hh.fourth k (.int .i64 v)).back4
    rwa [iv_setIf] at this
  len := by rw [List.length_set]; exact h.len
  pre := h.pre.trans hp
  room := hr
  done := fun j hj => by
    by_cases e : j = k
    · subst e
      rw [getD_set_same (by rw [h.len]; exact hm), ← ha, ← hb]
      exact hv'
    · rw [getD_set_else e]
      exact (h.done j (by omega)).grow hp
set_option maxHeartbeats 8000000 in
set_option maxRecDepth 100000 in
theorem squareAt_one (hm : m ≤ 1000) (ih : SquareAt W r hv nv mb sb rb L mm ob m bs F 0) : SquareAt W r hv nv mb sb rb L mm ob m bs F (0 + 1) := by
  intro w Ps ns x y z zx zy hz hx hy h hr h1 h2 hFF hL
  obtain rfl : z = 1 := by rw [hz]; rfl
  subst hx
  subst hy
  simp only [show (2 : Nat) ^ (0 + 1) = 2 by decide] at h1 h2 hFF
  have HFF := Lib.hid hFF
  have HSUB := Lib.hid hL
  have HSELF := Lib.hid (hL _ subs_mk_self)
  have H := Lib.hid h
  have HR := Lib.hid hr
  clear h hz hr hFF hL
  go_enter Try.func82, Try.ntmps82
  go_wp2
  obtain ⟨qb, hqb⟩ : ∃ qb, w.heap.size = qb := ⟨_, rfl⟩
  have h0 := (has_alloc H.out #[.int .i64 0, .int .i64 0, .int .i64 0, .int .i64 0] 75).back4
  rw [hqb] at h0 ⊢
  have H0 := Lib.hid h0
  clear h0 hqb H
  go_loopw [29] (fun x' wr => ∃ z : Int, x' = .int .i64 z ∧ At5 (fun q => ∃ ns' O, SqSt W wr r hv nv mb sb rb L ns mm (matR ob m bs F :: Ps) 0 F x y qb ns' O q) z) (fun x _ => 4 - (intOf x).toNat)
  case atStart => exact ⟨0, rfl, .inl ⟨rfl, ns, [0, 0, 0, 0], ⟨H0.out, rfl, List.prefix_refl _, HR.out, fun j hj => by omega⟩⟩⟩
  case round =>
    obtain ⟨z, rfl, hz⟩ := hrel
    clear H0
    rcases hz with ⟨rfl, ns2, O, hs⟩ | ⟨rfl, ns2, O, hs⟩ | ⟨rfl, ns2, O, hs⟩ | ⟨rfl, ns2, O, hs⟩ | ⟨rfl, ns2, O, hs⟩
    ·
      obtain ⟨_, _, _, m3, _, _, ml⟩ := memo_cells hs.has
      have HS := Lib.hid hs
      have HC := Lib.hid (fun (z zx zy : Int) (e1 : z = ((0 : Nat) : Int)) (e2 : zx = ((x + 0 % 2 * 2 ^ 0 : Nat) : Int)) (e3 : zy = ((y + 0 / 2 * 2 ^ 0 : Nat) : Int)) => ih _ _ _ _ _ z zx zy e1 e2 e3 hs.has.fifth hs.room (by omega) (by omega) (fun i j a b c d => HFF.out i j (by omega) (by omega) (by omega) (by omega)) (fun u hu => HSUB.out u (subs_mk_part (q := 0) (by omega) (by simpa [p2] using hu))))
      clear hs
      go_wp2_with fail
      refine (HC.out _ _ _ (by omega) (by simp; try omega) (by simp; try omega)).mono ?_
      rintro e w6 ⟨res, ns4, rfl, g1, g2, g3, g4⟩
      have g1 := g1.fifth
      have hc := blk_cell g1.fourth (j := 0) (by have := HS.out.len; omega)
      have hz := (has_cells g1.fourth).2.1 0
      have hl := (has_cells g1.fourth).2.2
      have HF := Lib.hid (HS.out.put (by omega) g1 g2 g3 g4 (by simp [p2]) (by simp [p2]))
      clear HC g1 g2 g3 g4 m3 ml
      go_wp2
      go_roundw
      case rel => exact ⟨1, rfl, (.inr (.inl ⟨rfl, _, _, HF.out⟩))⟩
      case measure => simp [intOf]
    ·
      obtain ⟨_, _, _, m3, _, _, ml⟩ := memo_cells hs.has
      have HS := Lib.hid hs
      have HC := Lib.hid (fun (z zx zy : Int) (e1 : z = ((0 : Nat) : Int)) (e2 : zx = ((x + 1 % 2 * 2 ^ 0 : Nat) : Int)) (e3 : zy = ((y + 1 / 2 * 2 ^ 0 : Nat) : Int)) => ih _ _ _ _ _ z zx zy e1 e2 e3 hs.has.fifth hs.room (by omega) (by omega) (fun i j a b c d => HFF.out i j (by omega) (by omega) (by omega) (by omega)) (fun u hu => HSUB.out u (subs_mk_part (q := 1) (by omega) (by simpa [p2] using hu))))
      clear hs
      go_wp2_with fail
      refine (HC.out _ _ _ (by omega) (by simp; try omega) (by simp; try omega)).mono ?_
      rintro e w6 ⟨res, ns4, rfl, g1, g2, g3, g4⟩
      have g1 := g1.fifth
      have hc := blk_cell g1.fourth (j := 1) (by have := HS.out.len; omega)
      have hz := (has_cells g1.fourth).2.1 1
      have hl := (has_cells g1.fourth).2.2
      have HF := Lib.hid (HS.out.put (by omega) g1 g2 g3 g4 (by simp [p2]) (by simp [p2]))
      clear HC g1 g2 g3 g4 m3 ml
      go_wp2
      go_roundw
      case rel => exact ⟨2, rfl, (.inr (.inr (.inl ⟨rfl, _, _, HF.out⟩)))⟩
      case measure => simp [intOf]
    ·
      obtain ⟨_, _, _, m3, _, _, ml⟩ := memo_cells hs.has
      have HS := Lib.hid hs
      have HC := Lib.hid (fun (z zx zy : Int) (e1 : z = ((0 : Nat) : Int)) (e2 : zx = ((x + 2 % 2 * 2 ^ 0 : Nat) : Int)) (e3 : zy = ((y + 2 / 2 * 2 ^ 0 : Nat) : Int)) => ih _ _ _ _ _ z zx zy e1 e2 e3 hs.has.fifth hs.room (by omega) (by omega) (fun i j a b c d => HFF.out i j (by omega) (by omega) (by omega) (by omega)) (fun u hu => HSUB.out u (subs_mk_part (q := 2) (by omega) (by simpa [p2] using hu))))
      clear hs
      go_wp2_with fail
      refine (HC.out _ _ _ (by omega) (by simp; try omega) (by simp; try omega)).mono ?_
      rintro e w6 ⟨res, ns4, rfl, g1, g2, g3, g4⟩
      have g1 := g1.fifth
      have hc := blk_cell g1.fourth (j := 2) (by have := HS.out.len; omega)
      have hz := (has_cells g1.fourth).2.1 2
      have hl := (has_cells g1.fourth).2.2
      have HF := Lib.hid (HS.out.put (by omega) g1 g2 g3 g4 (by simp [p2]) (by simp [p2]))
      clear HC g1 g2 g3 g4 m3 ml
      go_wp2
      go_roundw
      case rel => exact ⟨3, rfl, (.inr (.inr (.inr (.inl ⟨rfl, _, _, HF.out⟩))))⟩
      case measure => simp [intOf]
    ·
      obtain ⟨_, _, _, m3, _, _, ml⟩ := memo_cells hs.has
      have HS := Lib.hid hs
      have HC := Lib.hid (fun (z zx zy : Int) (e1 : z = ((0 : Nat) : Int)) (e2 : zx = ((x + 3 % 2 * 2 ^ 0 : Nat) : Int)) (e3 : zy = ((y + 3 / 2 * 2 ^ 0 : Nat) : Int)) => ih _ _ _ _ _ z zx zy e1 e2 e3 hs.has.fifth hs.room (by omega) (by omega) (fun i j a b c d => HFF.out i j (by omega) (by omega) (by omega) (by omega)) (fun u hu => HSUB.out u (subs_mk_part (q := 3) (by omega) (by simpa [p2] using hu))))
      clear hs
      go_wp2_with fail
      refine (HC.out _ _ _ (by omega) (by simp; try omega) (by simp; try omega)).mono ?_
      rintro e w6 ⟨res, ns4, rfl, g1, g2, g3, g4⟩
      have g1 := g1.fifth
      have hc := blk_cell g1.fourth (j := 3) (by have := HS.out.len; omega)
      have hz := (has_cells g1.fourth).2.1 3
      have hl := (has_cells g1.fourth).2.2
      have HF := Lib.hid (HS.out.put (by omega) g1 g2 g3 g4 (by simp [p2]) (by simp [p2]))
      clear HC g1 g2 g3 g4 m3 ml
      go_wp2
      go_roundw
      case rel => exact ⟨4, rfl, (.inr (.inr (.inr (.inr ⟨rfl, _, _, HF.out⟩))))⟩
      case measure => simp [intOf]
    · obtain ⟨_, _, _, m3, _, _, ml⟩ := memo_cells hs.has
      have o0 := blk_cell hs.has.fourth (j := 0) (by have := hs.len; omega)
      have o1 := blk_cell hs.has.fourth (j := 1) (by have := hs.len; omega)
      have o2 := blk_cell hs.has.fourth (j := 2) (by have := hs.len; omega)
      have o3 := blk_cell hs.has.fourth (j := 3) (by have := hs.len; omega)
      have ol := (has_cells hs.has.fourth).2.2
      have HJ := Lib.hid (fun w1 (hf : Fr [] wr w1) => JoinRoom_has (hs.has.step hf) hs.room (by omega) (hs.done 0 (by omega)) (hs.done 1 (by omega)) (hs.done 2 (by omega)) (hs.done 3 (by omega)) (by have h9 := HSELF.out; unfold Go.Proofs.Ev.mk at h9; simpa [p2] using h9))
      have HS := Lib.hid hs
      clear hs
      go_wp2
      (refine wp_region_text (by kernel_rfl) (by kernel_rfl) ?_)
      go_wp2_with fail
      refine (HJ.out _ (by (repeat (first | exact Fr.refl _ _ | assumption | apply Fr.drewN | apply Fr.drew | apply Fr.alloc | refine Fr.setCell ?_ (Or.inr (by simp; try omega)) _)))).mono ?_
      rintro e w5 ⟨id1, ns3, rfl, h1, h2, h3, h4⟩
      have H5 := Lib.hid (And.intro h1 (And.intro h2 (And.intro h3 h4)))
      clear o0 o1 o2 o3 ol h1 h2 h3 h4 m3 ml
      go_wp2
      refine Strict.intro rfl ?_
      go_wp2
      go_ret2
      refine ⟨id1, ns3, rfl, H5.out.1.fourth.drop, HS.out.pre.trans H5.out.2.1, H5.out.2.2.1, ?_⟩
      have h9 := H5.out.2.2.2
      unfold Go.Proofs.Ev.mk
      simpa [p2] using h9
set_option maxHeartbeats 8000000 in
set_option maxRecDepth 100000 in
theorem squareAt_two (hm : m ≤ 1000) (ih : SquareAt W r hv nv mb sb rb L mm ob m bs F 1) : SquareAt W r hv nv mb sb rb L mm ob m bs F (1 + 1) := by
  intro w Ps ns x y z zx zy hz hx hy h hr h1 h2 hFF hL
  obtain rfl : z = 2 := by rw [hz]; rfl
  subst hx
  subst hy
  simp only [show (2 : Nat) ^ (1 + 1) = 4 by decide] at h1 h2 hFF
  have HFF := Lib.hid hFF
  have HSUB := Lib.hid hL
  have HSELF := Lib.hid (hL _ subs_mk_self)
  have H := Lib.hid h
  have HR := Lib.hid hr
  clear h hz hr hFF hL
  go_enter Try.func82, Try.ntmps82
  go_wp2
  obtain ⟨qb, hqb⟩ : ∃ qb, w.heap.size = qb := ⟨_, rfl⟩
  have h0 := (has_alloc H.out #[.int .i64 0, .int .i64 0, .int .i64 0, .int .i64 0] 75).back4
  rw [hqb] at h0 ⊢
  have H0 := Lib.hid h0
  clear h0 hqb H
  go_loopw [29] (fun x' wr => ∃ z : Int, x' = .int .i64 z ∧ At5 (fun q => ∃ ns' O, SqSt W wr r hv nv mb sb rb L ns mm (matR ob m bs F :: Ps) 1 F x y qb ns' O q) z) (fun x _ => 4 - (intOf x).toNat)
  case atStart => exact ⟨0, rfl, .inl ⟨rfl, ns, [0, 0, 0, 0], ⟨H0.out, rfl, List.prefix_refl _, HR.out, fun j hj => by omega⟩⟩⟩
  case round =>
    obtain ⟨z, rfl, hz⟩ := hrel
    clear H0
    rcases hz with ⟨rfl, ns2, O, hs⟩ | ⟨rfl, ns2, O, hs⟩ | ⟨rfl, ns2, O, hs⟩ | ⟨rfl, ns2, O, hs⟩ | ⟨rfl, ns2, O, hs⟩
    ·
      obtain ⟨_, _, _, m3, _, _, ml⟩ := memo_cells hs.has
      have HS := Lib.hid hs
      have HC := Lib.hid (fun (z zx zy : Int) (e1 : z = ((1 : Nat) : Int)) (e2 : zx = ((x + 0 % 2 * 2 ^ 1 : Nat) : Int)) (e3 : zy = ((y + 0 / 2 * 2 ^ 1 : Nat) : Int)) => ih _ _ _ _ _ z zx zy e1 e2 e3 hs.has.fifth hs.room (by omega) (by omega) (fun i j a b c d => HFF.out i j (by omega) (by omega) (by omega) (by omega)) (fun u hu => HSUB.out u (subs_mk_part (q := 0) (by omega) (by simpa [p2] using hu))))
      clear hs
      go_wp2_with fail
      refine (HC.out _ _ _ (by omega) (by simp; try omega) (by simp; try omega)).mono ?_
      rintro e w6 ⟨res, ns4, rfl, g1, g2, g3, g4⟩
      have g1 := g1.fifth
      have hc := blk_cell g1.fourth (j := 0) (by have := HS.out.len; omega)
      have hz := (has_cells g1.fourth).2.1 0
      have hl := (has_cells g1.fourth).2.2
      have HF := Lib.hid (HS.out.put (by omega) g1 g2 g3 g4 (by simp [p2]) (by simp [p2]))
      clear HC g1 g2 g3 g4 m3 ml
      go_wp2
      go_roundw
      case rel => exact ⟨1, rfl, (.inr (.inl ⟨rfl, _, _, HF.out⟩))⟩
      case measure => simp [intOf]
    ·
      obtain ⟨_, _, _, m3, _, _, ml⟩ := memo_cells hs.has
      have HS := Lib.hid hs
      have HC := Lib.hid (fun (z zx zy : Int) (e1 : z = ((1 : Nat) : Int)) (e2 : zx = ((x + 1 % 2 * 2 ^ 1 : Nat) : Int)) (e3 : zy = ((y + 1 / 2 * 2 ^ 1 : Nat) : Int)) => ih _ _ _ _ _ z zx zy e1 e2 e3 hs.has.fifth hs.room (by omega) (by omega) (fun i j a b c d => HFF.out i j (by omega) (by omega) (by omega) (by omega)) (fun u hu => HSUB.out u (subs_mk_part (q := 1) (by omega) (by simpa [p2] using hu))))
      clear hs
      go_wp2_with fail
      refine (HC.out _ _ _ (by omega) (by simp; try omega) (by simp; try omega)).mono ?_
      rintro e w6 ⟨res, ns4, rfl, g1, g2, g3, g4⟩
      have g1 := g1.fifth
      have hc := blk_cell g1.fourth (j := 1) (by have := HS.out.len; omega)
      have hz := (has_cells g1.fourth).2.1 1
      have hl := (has_cells g1.fourth).2.2
      have HF := Lib.hid (HS.out.put (by omega) g1 g2 g3 g4 (by simp [p2]) (by simp [p2]))
      clear HC g1 g2 g3 g4 m3 ml
      go_wp2
      go_roundw
      case rel => exact ⟨2, rfl, (.inr (.inr (.inl ⟨rfl, _, _, HF.out⟩)))⟩
      case measure => simp [intOf]
    ·
      obtain ⟨_, _, _, m3, _, _, ml⟩ := memo_cells hs.has
      have HS := Lib.hid hs
      have HC := Lib.hid (fun (z zx zy : Int) (e1 : z = ((1 : Nat) : Int)) (e2 : zx = ((x + 2 % 2 * 2 ^ 1 : Nat) : Int)) (e3 : zy = ((y + 2 / 2 * 2 ^ 1 : Nat) : Int)) => ih _ _ _ _ _ z zx zy e1 e2 e3 hs.has.fifth hs.room (by omega) (by omega) (fun i j a b c d => HFF.out i j (by omega) (by omega) (by omega) (by omega)) (fun u hu => HSUB.out u (subs_mk_part (q := 2) (by omega) (by simpa [p2] using hu))))
      clear hs
      go_wp2_with fail
      refine (HC.out _ _ _ (by omega) (by simp; try omega) (by simp; try omega)).mono ?_
      rintro e w6 ⟨res, ns4, rfl, g1, g2, g3, g4⟩
      have g1 := g1.fifth
      have hc := blk_cell g1.fourth (j := 2) (by have := HS.out.len; omega)
      have hz := (has_cells g1.fourth).2.1 2
      have hl := (has_cells g1.fourth).2.2
      have HF := Lib.hid (HS.out.put (by omega) g1 g2 g3 g4 (by simp [p2]) (by simp [p2]))
      clear HC g1 g2 g3 g4 m3 ml
      go_wp2
      go_roundw
      case rel => exact ⟨3, rfl, (.inr (.inr (.inr (.inl ⟨rfl, _, _, HF.out⟩))))⟩
      case measure => simp [intOf]
    ·
      obtain ⟨_, _, _, m3, _, _, ml⟩ := memo_cells hs.has
      have HS := Lib.hid hs
      have HC := Lib.hid (fun (z zx zy : Int) (e1 : z = ((1 : Nat) : Int)) (e2 : zx = ((x + 3 % 2 * 2 ^ 1 : Nat) : Int)) (e3 : zy = ((y + 3 / 2 * 2 ^ 1 : Nat) : Int)) => ih _ _ _ _ _ z zx zy e1 e2 e3 hs.has.fifth hs.room (by omega) (by omega) (fun i j a b c d => HFF.out i j (by omega) (by omega) (by omega) (by omega)) (fun u hu => HSUB.out u (subs_mk_part (q := 3) (by omega) (by simpa [p2] using hu))))
      clear hs
      go_wp2_with fail
      refine (HC.out _ _ _ (by omega) (by simp; try omega) (by simp; try omega)).mono ?_
      rintro e w6 ⟨res, ns4, rfl, g1, g2, g3, g4⟩
      have g1 := g1.fifth
      have hc := blk_cell g1.fourth (j := 3) (by have := HS.out.len; omega)
      have hz := (has_cells g1.fourth).2.1 3
      have hl := (has_cells g1.fourth).2.2
      have HF := Lib.hid (HS.out.put (by omega) g1 g2 g3 g4 (by simp [p2]) (by simp [p2]))
      clear HC g1 g2 g3 g4 m3 ml
      go_wp2
      go_roundw
      case rel => exact ⟨4, rfl, (.inr (.inr (.inr (.inr ⟨rfl, _, _, HF.out⟩))))⟩
      case measure => simp [intOf]
    · obtain ⟨_, _, _, m3, _, _, ml⟩ := memo_cells hs.has
      have o0 := blk_cell hs.has.fourth (j := 0) (by have := hs.len; omega)
      have o1 := blk_cell hs.has.fourth (j := 1) (by have := hs.len; omega)
      have o2 := blk_cell hs.has.fourth (j := 2) (by have := hs.len; omega)
      have o3 := blk_cell hs.has.fourth (j := 3) (by have := hs.len; omega)
      have ol := (has_cells hs.has.fourth).2.2
      have HJ := Lib.hid (fun w1 (hf : Fr [] wr w1) => JoinRoom_has (hs.has.step hf) hs.room (by omega) (hs.done 0 (by omega)) (hs.done 1 (by omega)) (hs.done 2 (by omega)) (hs.done 3 (by omega)) (by have h9 := HSELF.out; unfold Go.Proofs.Ev.mk at h9; simpa [p2] using h9))
      have HS := Lib.hid hs
      clear hs
      go_wp2
      (refine wp_region_text (by kernel_rfl) (by kernel_rfl) ?_)
      go_wp2_with fail
      refine (HJ.out _ (by (repeat (first | exact Fr.refl _ _ | assumption | apply Fr.drewN | apply Fr.drew | apply Fr.alloc | refine Fr.setCell ?_ (Or.inr (by simp; try omega)) _)))).mono ?_
      rintro e w5 ⟨id1, ns3, rfl, h1, h2, h3, h4⟩
      have H5 := Lib.hid (And.intro h1 (And.intro h2 (And.intro h3 h4)))
      clear o0 o1 o2 o3 ol h1 h2 h3 h4 m3 ml
      go_wp2
      refine Strict.intro rfl ?_
      go_wp2
      go_ret2
      refine ⟨id1, ns3, rfl, H5.out.1.fourth.drop, HS.out.pre.trans H5.out.2.1, H5.out.2.2.1, ?_⟩
      have h9 := H5.out.2.2.2
      unfold Go.Proofs.Ev.mk
      simpa [p2] using h9
end
end Go.Proofs.Ytppmnmheodimoaa
end
