/- Own texts of this claim, part 35: no condition. -/
import Derived.Test.YtppmnmheodimoaaZM32
import Derived.Test.YtppmnmheodimoaaZM21
import Derived.Test.YtppmnmheodimoaaZM33
section
/- The reference's node of rows. -/
namespace Go.Proofs.Ytppmnmheodimoaa
open Go Go.RowKit Go.Proofs.Rg Go.Proofs.Mp Go.Proofs.Hp Go.Proofs.Qs Go.Proofs.Ev
set_option linter.unusedVariables false
set_option linter.unusedSimpArgs false
def dummy : Tr := .node (.leaf 100) (.leaf 100) (.leaf 100) (.leaf 100)
theorem room_lt {s : Int} {ns : List K4} {L : List Tr} (hg : GoodQ s ns) (h : room s ns L) (hd : dummy ∈ L) : ns.length < 90000 := by
  have hn : dummy ∉ trs s ns := by
    intro hm
    obtain ⟨i, hi, he⟩ := List.mem_iff_getElem.1 hm
    have hi' : i < ns.length := by rw [← trs_length s ns]; exact hi
    have he : tr s ns (s + i) = dummy := by
      unfold tr tget
      rw [if_neg (by omega), show (s + (i : Int) - s).toNat = i by omega, List.getD_eq_getElem?_getD, List.getElem?_eq_getElem hi, he]
      rfl
    have := (good_full hg ns.length (x := s + i) (by omega) ⟨by have := hg.1; omega, by omega⟩).2
    rw [he] at this
    have h8 := hg.2.1
    have := this.1.2
    omega
  have hp : 0 < (L.filter fun t => decide (t ∉ trs s ns)).length := by
    apply List.length_pos_of_mem (a := dummy)
    simp [hd, hn]
  unfold room at h
  omega
theorem ints_cell {w : World} {b : Nat} {I : List Int} {T : TypeId} {fr : Nat × Nat} (h : w.heap[b]? = some (.cells (iv I).toArray T fr)) {j : Nat} (hj : j < I.length) : w.cell? ⟨b, j, none⟩ = some (.int .i64 (I.getD j 0)) := by
  rw [heap_eq_cell h]
  have := iv_get (List.getElem?_eq_getElem hj)
  rw [List.getD_eq_getElem?_getD, List.getElem?_eq_getElem hj]
  simpa using this
def BuPost (w : World) (b : Nat) (s : Int) (ns : List K4) (L : List Tr) (F : List Nat) (n : Nat) (T : Tr) (e : Ending) (w' : World) : Prop :=
  ∃ id ns' F', e = .returned (.tuple #[.int .i64 id, .int .i64 0]) ∧ RefAt w' b s ns' F' ∧ Fr F w w' ∧ (∀ x ∈ F', x ∈ F ∨ w.heap.size ≤ x) ∧ ns <+: ns' ∧ room s ns' L ∧ Is s ns' n id T
def BuildAt (s : Int) (L : List Tr) (b n : Nat) : Prop := dummy ∈ L → ∀ (w : World) (F : List Nat) (ns : List K4) (a : Option Addr) (m c : Nat) (G : Fld) (ox oy : Int), m = 2 ^ n → RefAt w b s ns F → room s ns L → RowsOff w (.slice a m c) (gridL m G ox oy) F →
  (∀ i j : Nat, i < m → j < m → 0 ≤ G (ox + i) (oy + j) ∧ G (ox + i) (oy + j) < s) → (∀ u ∈ subs (mk n G ox oy), u ∈ L) →
  Calls Try.prog 48 #[.pointer (some ⟨b, 0, none⟩), .slice a m c] w (BuPost w b s ns L F n (mk n G ox oy))
set_option maxRecDepth 100000 in
theorem build_zero {s : Int} {L : List Tr} {b : Nat} : BuildAt s L b 0 := by
  intro hdum w F ns a m c G ox oy hm hS hr hrow hG hL
  have hm : m = 1 := hm
  subst hm
  obtain ⟨g, off, g2, of2, rc, rfl, lg, cg, hint, lg2, _⟩ := row_fit hrow.fit (gridL_get (y := 0) (by omega)) (by rw [rowL_length]; omega)
  rw [rowL_length] at cg hint
  obtain ⟨g3, of3, he, _, cx⟩ := hint.cell (rowL_get (x := 0) (by omega))
  cases he
  have HD := Lib.hid (show ∃ id, G (ox + ((0 : Nat) : Int)) (oy + ((0 : Nat) : Int)) = id ∧ 0 ≤ id ∧ id < s from ⟨_, rfl, hG 0 0 (by omega) (by omega)⟩)
  obtain ⟨id, hid, h0, h1⟩ := HD.out
  rw [hid] at cx
  rw [Nat.add_zero] at cg cx
  have HRES := Lib.hid (show BuPost w b s ns L F 0 (mk 0 G ox oy) (.returned (.tuple #[.int .i64 id, .int .i64 0])) w from ⟨id, ns, F, rfl, hS, Fr.refl _ _, fun x hx => .inl hx, List.prefix_refl _, hr, by
    have e : mk 0 G ox oy = .leaf id := by rw [← hid]; simp [Go.Proofs.Ev.mk]
    rw [e]
    exact Is.leaf h0 h1⟩)
  clear hS hr hrow hG hL hint HD hid h0 h1
  go_enter Try.func48, Try.ntmps48
  go_wp2
  go_ret2
  exact HRES.out
theorem RowsOff.less {w : World} {v : Value} {L : List (List Int)} {G G' : List Nat} (h : RowsOff w v L G) (hs : ∀ x ∈ G', x ∈ G) : RowsOff w v L G' := h.step (Fr.refl _ _) fun x hx => .inl (hs x hx)
structure BuSt (w wr : World) (b : Nat) (s : Int) (ns : List K4) (L : List Tr) (F : List Nat) (a : Option Addr) (m c n : Nat) (G : Fld) (ox oy : Int) (kb : Nat) (ns' : List K4) (F' : List Nat) (O : List Int) (q : Nat) : Prop where
  ref : RefAt wr b s ns' F'
  fr : Fr F w wr
  sub : ∀ x ∈ F', x ∈ F ∨ w.heap.size ≤ x
  off : kb ∉ F'
  blk : wr.heap[kb]? = some (.cells (iv O).toArray 75 (0, 0))
  low : w.heap.size ≤ kb
  len : O.length = 4
  pre : ns <+: ns'
  room : Qs.room s ns' L
  rows : RowsOff wr (.slice a m c) (gridL m G ox oy) (kb :: F')
  done : ∀ j, j < q → Is s ns' n (O.getD j 0) (Go.Proofs.Ev.mk n G (ox + (j % 2 : Nat) * p2 n) (oy + (j / 2 : Nat) * p2 n))
theorem BuSt.put {w wr w1 w2 : World} {b : Nat} {s : Int} {ns : List K4} {L : List Tr} {F : List Nat} {a : Option Addr} {m c n : Nat} {G : Fld} {ox oy : Int} {kb : Nat} {ns' : List K4} {F' : List Nat} {O : List Int} {q : Nat} (h : BuSt w wr b s ns L F a m c n G ox oy kb ns' F' O q) (hq : q < 4)
    (hf : Fr [] wr w1) {id : Int} {ns2 : List K4} {F2 : List Nat} (h2 : RefAt w2 b s ns2 F2) (hf2 : Fr F' w1 w2) (hs2 : ∀ x ∈ F2, x ∈ F' ∨ w1.heap.size ≤ x) (hp : ns' <+: ns2) (hr : Qs.room s ns2 L) {x y : Int} (hi : Is s ns2 n id (Go.Proofs.Ev.mk n G x y)) (hx : x = ox + (q % 2 : Nat) * p2 n) (hy : y = oy + (q / 2 : Nat) * p2 n) :
    BuSt w (w2.setCell ⟨kb, q, none⟩ (.int .i64 id)) b s ns L F a m c n G ox oy kb ns2 F2 (O.set q id) (q + 1) := by
  have hkl := lt_of_block h.blk
  have hk1 : kb < w1.heap.size := by have := hf.size; omega
  have hoff : kb ∉ F2 := fun hx => by rcases hs2 kb hx with h9 | h9; exact h.off h9; omega
  have hb1 := (hf.block kb hkl (by simp)).trans h.blk
  have hb2 := (hf2.block kb hk1 h.off).trans hb1
  have hset : ∀ z, z ≠ kb → (w2.setCell ⟨kb, q, none⟩ (.int .i64 id)).heap[z]? = w2.heap[z]? := fun z hz => heap_setCell_else _ _ _ _ hz
  have hfr2 : Fr F w w2 := (h.fr.trans0 hf).trans hf2 fun x hx => by
    rcases h.sub x hx with h9 | h9
    · exact .inl h9
    · exact .inr h9
  have hsub2 : ∀ x ∈ F2, x ∈ F ∨ w.heap.size ≤ x := fun x hx => by
    rcases hs2 x hx with h9 | h9
    · exact h.sub x h9
    · have := h.fr.size; have := hf.size; exact .inr (by omega)
  have hrow2 : RowsOff (w2.setCell ⟨kb, q, none⟩ (.int .i64 id)) (.slice a m c) (gridL m G ox oy) (kb :: F2) := by
    refine h.rows.step (G := kb :: F') ?_ fun x hx => ?_
    · have h1 : Fr (kb :: F') wr w2 := (hf.mono (G := kb :: F') (fun x hx => absurd hx (by simp))).trans hf2 fun x hx => .inl (by simp [hx])
      exact h1.setCell (.inl (by simp)) _
    · rcases List.mem_cons.1 hx with rfl | hx
      · exact .inl (by simp)
      · rcases hs2 x hx with h9 | h9
        · exact .inl (by simp [h9])
        · have := hf.size; exact .inr (by omega)
  refine ⟨h2.keep fun x hx => hset x (fun e => hoff (e ▸ hx)), hfr2.setCell (.inr h.low) _, hsub2, hoff, ?_, h.low, by rw [List.length_set]; exact h.len, h.pre.trans hp, hr, hrow2, fun j hj => ?_⟩
  · rw [heap_setCell_here hb2]
    congr 2
    exact iv_setIf O q id
  · by_cases e : j = q
    · subst e
      rw [getD_set_same (by rw [h.len]; exact hq), ← hx, ← hy]
      exact hi
    · rw [getD_set_else e]
      exact (h.done j (by omega)).grow hp
set_option maxHeartbeats 8000000 in
set_option maxRecDepth 100000 in
theorem build_succ {s : Int} {L : List Tr} {b n : Nat} (hn : n ≤ 8) (ih : BuildAt s L b n) : BuildAt s L b (n + 1) := by
  intro hdum w F ns a m c G ox oy hm hS hr hrow hG hL
  have hp : (2 : Nat) ^ n ≤ 256 := Nat.pow_le_pow_right (by omega) hn
  have hp1 : 1 ≤ (2 : Nat) ^ n := Nat.one_le_two_pow
  obtain ⟨h, hh⟩ : ∃ h, 2 ^ n = h := ⟨_, rfl⟩
  rw [show 2 ^ (n + 1) = 2 * 2 ^ n by omega] at hm
  rw [hh] at hm hp hp1
  have HG := Lib.hid hG
  have HSUB := Lib.hid hL
  have HSELF := Lib.hid (hL _ subs_mk_self)
  have HH := Lib.hid hh
  have HP2 := Lib.hid (show p2 n = (h : Int) by rw [← hh]; simp [p2])
  have IH := Lib.hid (ih hdum)
  have hm1 : ((m : Int) == 1) = false := by simp; omega
  have hmd : (m : Int).tdiv 2 = h := by
    have e : (m : Int) = 2 * h := by omega
    rw [e]; exact Int.mul_tdiv_cancel_left _ (by omega)
  have H0 := Lib.hid (fun (kb : Nat) (hkb : kb = w.heap.size) => show BuSt w (w.alloc (.cells #[.int .i64 0, .int .i64 0, .int .i64 0, .int .i64 0] 75 (0, 0))) b s ns L F a m c n G ox oy kb ns F [0, 0, 0, 0] 0 from by
    subst hkb
    exact ⟨hS.fr ((Fr.refl [] w).alloc _) (by simp), (Fr.refl F w).alloc _, fun x hx => .inl hx, fun hx => Nat.lt_irrefl _ (hS.lt _ hx), by (repeat (first | rw [if_pos (by omega)] | rw [if_neg (by omega)] | rw [hp_drew] | rw [hp_drewN] | rw [hp_alloc_size] | rw [hp_setCell_size] | rw [hp_alloc] | rw [hp_setCell] | rw [Option.map_some] | rw [upd_cells] | rw [List.set_cons_zero] | rw [List.set_cons_succ] | rfl)), Nat.le_refl _, rfl, List.prefix_refl _, hr, hrow.step ((Fr.refl F w).alloc _) (fun x hx => by
      rcases List.mem_cons.1 hx with rfl | hx
      · exact .inr (Nat.le_refl _)
      · exact .inl hx), fun j hj => by omega⟩)
  have HM := Lib.hid hm
  have hmq : h * 2 ≤ 512 := by omega
  clear hS hr hrow hG hL hh ih hm
  go_enter Try.func48, Try.ntmps48
  go_wp2
  obtain ⟨kb, hkb⟩ : ∃ kb, w.heap.size = kb := ⟨_, rfl⟩
  have H0 := Lib.hid (H0.out kb hkb.symm)
  rw [hkb]
  clear hkb
  go_loopw [8] (fun x' wr => ∃ z : Int, x' = .int .i64 z ∧ At5 (fun q => ∃ ns' F' O, BuSt w wr b s ns L F a m c n G ox oy kb ns' F' O q) z) (fun x _ => 4 - (intOf x).toNat)
  case atStart => exact ⟨0, rfl, .inl ⟨rfl, ns, F, [0, 0, 0, 0], H0.out⟩⟩
  case round =>
    obtain ⟨z, rfl, hz⟩ := hrel
    clear H0
    rcases hz with ⟨rfl, ns2, F2, O, hs⟩ | ⟨rfl, ns2, F2, O, hs⟩ | ⟨rfl, ns2, F2, O, hs⟩ | ⟨rfl, ns2, F2, O, hs⟩ | ⟨rfl, ns2, F2, O, hs⟩
    ·
      have HS := Lib.hid hs
      have H1 := Lib.hid (show ∀ w1, Fr [] wr w1 → ∀ zx zy : Int, zx = ((0 % 2 * h : Nat) : Int) → zy = ((0 / 2 * h : Nat) : Int) → Calls Try.prog 49 #[.slice a m c, .int .i64 zx, .int .i64 zy, .int .i64 h] w1 (fun e w' => ∃ c' a', e = .returned (.slice a' h c') ∧ RowsOff w' (.slice a' h c') (gridL h G (ox + zx) (oy + zy)) F2 ∧ Fr [] w1 w') from by intro w1 hf zx zy e1 e2; subst e1; subst e2; exact RSquare_calls (x := 0 % 2 * h) (y := 0 / 2 * h) (n := h) ((hs.rows.less (G' := F2) (fun x hx => by simp [hx])).step (hf.mono (fun x hx => absurd hx (by simp))) (fun x hx => .inl hx)) (fun x hx => by have := hs.ref.lt x hx; have := hf.size; omega) (by have := HM.out; omega) (by have := HM.out; omega) (by omega) (by have := HM.out; omega))
      clear hs
      go_wp2_with fail
      refine (H1.out _ (by (repeat (first | exact Fr.refl _ _ | assumption | apply Fr.drewN | apply Fr.drew | apply Fr.alloc | refine Fr.setCell ?_ (Or.inr (by simp; try omega)) _))) _ _ (by first | rfl | simp) (by first | rfl | simp)).mono ?_
      rintro e w4 ⟨ca, aa, rfl, hro, hf4⟩
      have hf4 : Fr [] wr w4 := Fr.trans0 (by (repeat (first | exact Fr.refl _ _ | assumption | apply Fr.drewN | apply Fr.drew | apply Fr.alloc | refine Fr.setCell ?_ (Or.inr (by simp; try omega)) _))) hf4
      have H2 := Lib.hid (IH.out w4 F2 ns2 aa h ca G _ _ HH.out.symm (HS.out.ref.fr hf4 (by simp)) HS.out.room hro (fun i j h1 h2 => by
        have hm := HM.out
        have := HG.out (0 % 2 * h + i) (0 / 2 * h + j) (by omega) (by omega)
        simpa [Int.add_assoc] using this) (fun u hu => HSUB.out u (subs_mk_part (q := 0) (by omega) (by rw [HP2.out]; simpa using hu))))
      have HF4 := Lib.hid hf4
      clear hf4 hro H1
      go_wp2_with fail
      refine H2.out.mono ?_
      rintro e w6 ⟨id, ns3, F3, rfl, g1, g2, g3, g4, g5, g6⟩
      have HF := Lib.hid (HS.out.put (by omega) HF4.out g1 g2 g3 g4 g5 g6 (by rw [HP2.out]; simp) (by rw [HP2.out]; simp))
      have hkl := lt_of_block HS.out.blk
      have hk1 : kb < w4.heap.size := by have := HF4.out.size; omega
      have hb1 := (HF4.out.block kb hkl (by simp)).trans HS.out.blk
      have hb2 := (g2.block kb hk1 HS.out.off).trans hb1
      have hc := ints_cell hb2 (j := 0) (by have := HS.out.len; omega)
      have hz := heap_eq_frozen hb2 0
      have hl := lt_of_block hb2
      have HLEN := Lib.hid HS.out.len
      clear H2 g1 g2 g3 g4 g5 g6 hkl hk1 hb1 hb2
      go_wp2
      go_roundw
      case rel => exact ⟨1, rfl, (.inr (.inl ⟨rfl, _, _, _, HF.out⟩))⟩
      case measure => simp [intOf]
    ·
      have HS := Lib.hid hs
      have H1 := Lib.hid (show ∀ w1, Fr [] wr w1 → ∀ zx zy : Int, zx = ((1 % 2 * h : Nat) : Int) → zy = ((1 / 2 * h : Nat) : Int) → Calls Try.prog 49 #[.slice a m c, .int .i64 zx, .int .i64 zy, .int .i64 h] w1 (fun e w' => ∃ c' a', e = .returned (.slice a' h c') ∧ RowsOff w' (.slice a' h c') (gridL h G (ox + zx) (oy + zy)) F2 ∧ Fr [] w1 w') from by intro w1 hf zx zy e1 e2; subst e1; subst e2; exact RSquare_calls (x := 1 % 2 * h) (y := 1 / 2 * h) (n := h) ((hs.rows.less (G' := F2) (fun x hx => by simp [hx])).step (hf.mono (fun x hx => absurd hx (by simp))) (fun x hx => .inl hx)) (fun x hx => by have := hs.ref.lt x hx; have := hf.size; omega) (by have := HM.out; omega) (by have := HM.out; omega) (by omega) (by have := HM.out; omega))
      clear hs
      go_wp2_with fail
      refine (H1.out _ (by (repeat (first | exact Fr.refl _ _ | assumption | apply Fr.drewN | apply Fr.drew | apply Fr.alloc | refine Fr.setCell ?_ (Or.inr (by simp; try omega)) _))) _ _ (by first | rfl | simp) (by first | rfl | simp)).mono ?_
      rintro e w4 ⟨ca, aa, rfl, hro, hf4⟩
      have hf4 : Fr [] wr w4 := Fr.trans0 (by (repeat (first | exact Fr.refl _ _ | assumption | apply Fr.drewN | apply Fr.drew | apply Fr.alloc | refine Fr.setCell ?_ (Or.inr (by simp; try omega)) _))) hf4
      have H2 := Lib.hid (IH.out w4 F2 ns2 aa h ca G _ _ HH.out.symm (HS.out.ref.fr hf4 (by simp)) HS.out.room hro (fun i j h1 h2 => by
        have hm := HM.out
        have := HG.out (1 % 2 * h + i) (1 / 2 * h + j) (by omega) (by omega)
        simpa [Int.add_assoc] using this) (fun u hu => HSUB.out u (subs_mk_part (q := 1) (by omega) (by rw [HP2.out]; simpa using hu))))
      have HF4 := Lib.hid hf4
      clear hf4 hro H1
      go_wp2_with fail
      refine H2.out.mono ?_
      rintro e w6 ⟨id, ns3, F3, rfl, g1, g2, g3, g4, g5, g6⟩
      have HF := Lib.hid (HS.out.put (by omega) HF4.out g1 g2 g3 g4 g5 g6 (by rw [HP2.out]; simp) (by rw [HP2.out]; simp))
      have hkl := lt_of_block HS.out.blk
      have hk1 : kb < w4.heap.size := by have := HF4.out.size; omega
      have hb1 := (HF4.out.block kb hkl (by simp)).trans HS.out.blk
      have hb2 := (g2.block kb hk1 HS.out.off).trans hb1
      have hc := ints_cell hb2 (j := 1) (by have := HS.out.len; omega)
      have hz := heap_eq_frozen hb2 1
      have hl := lt_of_block hb2
      have HLEN := Lib.hid HS.out.len
      clear H2 g1 g2 g3 g4 g5 g6 hkl hk1 hb1 hb2
      go_wp2
      go_roundw
      case rel => exact ⟨2, rfl, (.inr (.inr (.inl ⟨rfl, _, _, _, HF.out⟩)))⟩
      case measure => simp [intOf]
    ·
      have HS := Lib.hid hs
      have H1 := Lib.hid (show ∀ w1, Fr [] wr w1 → ∀ zx zy : Int, zx = ((2 % 2 * h : Nat) : Int) → zy = ((2 / 2 * h : Nat) : Int) → Calls Try.prog 49 #[.slice a m c, .int .i64 zx, .int .i64 zy, .int .i64 h] w1 (fun e w' => ∃ c' a', e = .returned (.slice a' h c') ∧ RowsOff w' (.slice a' h c') (gridL h G (ox + zx) (oy + zy)) F2 ∧ Fr [] w1 w') from by intro w1 hf zx zy e1 e2; subst e1; subst e2; exact RSquare_calls (x := 2 % 2 * h) (y := 2 / 2 * h) (n := h) ((hs.rows.less (G' := F2) (fun x hx => by simp [hx])).step (hf.mono (fun x hx => absurd hx (by simp))) (fun x hx => .inl hx)) (fun x hx => by have := hs.ref.lt x hx; have := hf.size; omega) (by have := HM.out; omega) (by have := HM.out; omega) (by omega) (by have := HM.out; omega))
      clear hs
      go_wp2_with fail
      refine (H1.out _ (by (repeat (first | exact Fr.refl _ _ | assumption | apply Fr.drewN | apply Fr.drew | apply Fr.alloc | refine Fr.setCell ?_ (Or.inr (by simp; try omega)) _))) _ _ (by first | rfl | simp) (by first | rfl | simp)).mono ?_
      rintro e w4 ⟨ca, aa, rfl, hro, hf4⟩
      have hf4 : Fr [] wr w4 := Fr.trans0 (by (repeat (first | exact Fr.refl _ _ | assumption | apply Fr.drewN | apply Fr.drew | apply Fr.alloc | refine Fr.setCell ?_ (Or.inr (by simp; try omega)) _))) hf4
      have H2 := Lib.hid (IH.out w4 F2 ns2 aa h ca G _ _ HH.out.symm (HS.out.ref.fr hf4 (by simp)) HS.out.room hro (fun i j h1 h2 => by
        have hm := HM.out
        have := HG.out (2 % 2 * h + i) (2 / 2 * h + j) (by omega) (by omega)
        simpa [Int.add_assoc] using this) (fun u hu => HSUB.out u (subs_mk_part (q := 2) (by omega) (by rw [HP2.out]; simpa using hu))))
      have HF4 := Lib.hid hf4
      clear hf4 hro H1
      go_wp2_with fail
      refine H2.out.mono ?_
      rintro e w6 ⟨id, ns3, F3, rfl, g1, g2, g3, g4, g5, g6⟩
      have HF := Lib.hid (HS.out.put (by omega) HF4.out g1 g2 g3 g4 g5 g6 (by rw [HP2.out]; simp) (by rw [HP2.out]; simp))
      have hkl := lt_of_block HS.out.blk
      have hk1 : kb < w4.heap.size := by have := HF4.out.size; omega
      have hb1 := (HF4.out.block kb hkl (by simp)).trans HS.out.blk
      have hb2 := (g2.block kb hk1 HS.out.off).trans hb1
      have hc := ints_cell hb2 (j := 2) (by have := HS.out.len; omega)
      have hz := heap_eq_frozen hb2 2
      have hl := lt_of_block hb2
      have HLEN := Lib.hid HS.out.len
      clear H2 g1 g2 g3 g4 g5 g6 hkl hk1 hb1 hb2
      go_wp2
      go_roundw
      case rel => exact ⟨3, rfl, (.inr (.inr (.inr (.inl ⟨rfl, _, _, _, HF.out⟩))))⟩
      case measure => simp [intOf]
    ·
      have HS := Lib.hid hs
      have H1 := Lib.hid (show ∀ w1, Fr [] wr w1 → ∀ zx zy : Int, zx = ((3 % 2 * h : Nat) : Int) → zy = ((3 / 2 * h : Nat) : Int) → Calls Try.prog 49 #[.slice a m c, .int .i64 zx, .int .i64 zy, .int .i64 h] w1 (fun e w' => ∃ c' a', e = .returned (.slice a' h c') ∧ RowsOff w' (.slice a' h c') (gridL h G (ox + zx) (oy + zy)) F2 ∧ Fr [] w1 w') from by intro w1 hf zx zy e1 e2; subst e1; subst e2; exact RSquare_calls (x := 3 % 2 * h) (y := 3 / 2 * h) (n := h) ((hs.rows.less (G' := F2) (fun x hx => by simp [hx])).step (hf.mono (fun x hx => absurd hx (by simp))) (fun x hx => .inl hx)) (fun x hx => by have := hs.ref.lt x hx; have := hf.size; omega) (by have := HM.out; omega) (by have := HM.out; omega) (by omega) (by have := HM.out; omega))
      clear hs
      go_wp2_with fail
      refine (H1.out _ (by (repeat (first | exact Fr.refl _ _ | assumption | apply Fr.drewN | apply Fr.drew | apply Fr.alloc | refine Fr.setCell ?_ (Or.inr (by simp; try omega)) _))) _ _ (by first | rfl | simp) (by first | rfl | simp)).mono ?_
      rintro e w4 ⟨ca, aa, rfl, hro, hf4⟩
      have hf4 : Fr [] wr w4 := Fr.trans0 (by (repeat (first | exact Fr.refl _ _ | assumption | apply Fr.drewN | apply Fr.drew | apply Fr.alloc | refine Fr.setCell ?_ (Or.inr (by simp; try omega)) _))) hf4
      have H2 := Lib.hid (IH.out w4 F2 ns2 aa h ca G _ _ HH.out.symm (HS.out.ref.fr hf4 (by simp)) HS.out.room hro (fun i j h1 h2 => by
        have hm := HM.out
        have := HG.out (3 % 2 * h + i) (3 / 2 * h + j) (by omega) (by omega)
        simpa [Int.add_assoc] using this) (fun u hu => HSUB.out u (subs_mk_part (q := 3) (by omega) (by rw [HP2.out]; simpa using hu))))
      have HF4 := Lib.hid hf4
      clear hf4 hro H1
      go_wp2_with fail
      refine H2.out.mono ?_
      rintro e w6 ⟨id, ns3, F3, rfl, g1, g2, g3, g4, g5, g6⟩
      have HF := Lib.hid (HS.out.put (by omega) HF4.out g1 g2 g3 g4 g5 g6 (by rw [HP2.out]; simp) (by rw [HP2.out]; simp))
      have hkl := lt_of_block HS.out.blk
      have hk1 : kb < w4.heap.size := by have := HF4.out.size; omega
      have hb1 := (HF4.out.block kb hkl (by simp)).trans HS.out.blk
      have hb2 := (g2.block kb hk1 HS.out.off).trans hb1
      have hc := ints_cell hb2 (j := 3) (by have := HS.out.len; omega)
      have hz := heap_eq_frozen hb2 3
      have hl := lt_of_block hb2
      have HLEN := Lib.hid HS.out.len
      clear H2 g1 g2 g3 g4 g5 g6 hkl hk1 hb1 hb2
      go_wp2
      go_roundw
      case rel => exact ⟨4, rfl, (.inr (.inr (.inr (.inr ⟨rfl, _, _, _, HF.out⟩))))⟩
      case measure => simp [intOf]
    · have hb := hs.blk
      have hlen := hs.len
      obtain ⟨i0, i1, i2, i3, rfl⟩ : ∃ i0 i1 i2 i3, O = [i0, i1, i2, i3] := by
        rcases O with _ | ⟨i0, _ | ⟨i1, _ | ⟨i2, _ | ⟨i3, _ | ⟨_, _⟩⟩⟩⟩⟩ <;> simp at hlen
        exact ⟨_, _, _, _, rfl⟩
      have o0 : wr.cell? ⟨kb, 0, none⟩ = some (.int .i64 i0) := ints_cell hb (j := 0) (by simp)
      have o1 : wr.cell? ⟨kb, 1, none⟩ = some (.int .i64 i1) := ints_cell hb (j := 1) (by simp)
      have o2 : wr.cell? ⟨kb, 2, none⟩ = some (.int .i64 i2) := ints_cell hb (j := 2) (by simp)
      have o3 : wr.cell? ⟨kb, 3, none⟩ = some (.int .i64 i3) := ints_cell hb (j := 3) (by simp)
      have ol := lt_of_block hb
      obtain ⟨id1, ms, hj, hg9, hp9, hr9, hi9⟩ := join_room hs.ref.1 hs.room (by omega : n < 256) (hs.done 0 (by omega)) (hs.done 1 (by omega)) (hs.done 2 (by omega)) (hs.done 3 (by omega)) (show Tr.node _ _ _ _ ∈ L by have h9 := HSELF.out; unfold Go.Proofs.Ev.mk at h9; simpa using h9)
      have HJ := Lib.hid (fun w1 (hf : Fr [] wr w1) => RJoin_calls (hs.ref.fr hf (by simp)) (room_lt hs.ref.1 hs.room hdum) ⟨i0, i1, i2, i3⟩)
      unfold RTwo at HJ
      have hj : join s ns2 ⟨i0, i1, i2, i3⟩ = ((id1, 0), ms) := hj
      rw [hj] at HJ
      have HR := Lib.hid (And.intro hs (And.intro hp9 (And.intro hr9 hi9)))
      clear hs hb hlen hj hg9 hp9 hr9 hi9
      go_wp2_with fail
      refine (HJ.out _ (by (repeat (first | exact Fr.refl _ _ | assumption | apply Fr.drewN | apply Fr.drew | apply Fr.alloc | refine Fr.setCell ?_ (Or.inr (by simp; try omega)) _)))).mono ?_
      rintro e w5 ⟨rfl, F5, h1, h2, h3⟩
      have H5 := Lib.hid (And.intro h1 (And.intro h2 h3))
      clear h1 h2 h3 o0 o1 o2 o3 ol HJ
      go_wp2
      go_ret2
      obtain ⟨h1, h2, h3⟩ := H5.out
      obtain ⟨hs, hp9, hr9, hi9⟩ := HR.out
      refine ⟨id1, ms, F5, rfl, h1, hs.fr.trans (Fr.trans (F := F2) (by (repeat (first | exact Fr.refl _ _ | assumption | apply Fr.drewN | apply Fr.drew | apply Fr.alloc | refine Fr.setCell ?_ (Or.inr (by simp; try omega)) _))) h2 fun x hx => .inl hx) hs.sub, fun x hx => ?_, hs.pre.trans hp9, hr9, ?_⟩
      · rcases h3 x hx with h9 | h9
        · exact hs.sub x h9
        · have := hs.fr.size; exact .inr (Nat.le_trans this h9)
      · show Is s ms (n + 1) id1 (Go.Proofs.Ev.mk (n + 1) G ox oy)
        unfold Go.Proofs.Ev.mk
        simpa using hi9
theorem build_all {s : Int} {L : List Tr} {b : Nat} : ∀ n, n ≤ 8 → BuildAt s L b n
  | 0, _ => build_zero
  | n + 1, h => build_succ (by omega) (build_all n (by omega))
end Go.Proofs.Ytppmnmheodimoaa
end
