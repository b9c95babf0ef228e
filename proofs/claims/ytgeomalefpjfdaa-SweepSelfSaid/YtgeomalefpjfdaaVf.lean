/- Alike of package sweep, and its inner function. -/
import Derived.Test.YtgeomalefpjfdaaVe
import Derived.Laws.EntriesVeiled
namespace Go.Proofs.Ytgeomalefpjfdaa
open Go Go.RowKit Go.Proofs.Rg Go.Proofs.Mp Go.Proofs.Hp Go.Proofs.Qs
set_option linter.unusedVariables false
def kp (p : Int × Int) : Value := .agg #[.int .i64 p.1, .int .i64 p.2]
def gu (_ : Unit) : Value := .bool true
theorem keys2 : KeysBy Try.prog 72 kp :=
  KeysBy.ints (q := .i64) (fun p : Int × Int => [p.1, p.2]) (fun a b h => by cases a; cases b; simpa using h) (fun _ => rfl) Try.underlying72 Try.underlying3 size_int
theorem get_mem {κ : Type} [DecidableEq κ] {l : List (κ × Unit)} {k : κ} (h : k ∈ l.map (·.1)) : get? l k = some () := by
  unfold get?
  cases hi : (l.map (·.1)).idxOf? k with
  | none => rw [List.idxOf?_eq_none_iff] at hi; exact absurd h hi
  | some i =>
    rw [List.idxOf?_eq_some_iff] at hi
    have h1 := hi.1
    rw [List.length_map] at h1
    show (l[i]?).map (·.2) = _
    rw [List.getElem?_eq_getElem h1]; rfl
theorem get_not {κ : Type} [DecidableEq κ] {l : List (κ × Unit)} {k : κ} (h : k ∉ l.map (·.1)) : get? l k = none := by
  unfold get?
  rw [List.idxOf?_eq_none_iff.2 h]; rfl
theorem put_mem {κ : Type} [DecidableEq κ] {l : List (κ × Unit)} {k : κ} (h : k ∉ l.map (·.1)) : (put l k ()).map (·.1) = l.map (·.1) ++ [k] := by
  unfold put
  rw [List.idxOf?_eq_none_iff.2 h]; simp
/-- what is seen and not above a level is alike -/
def Seen (s : Int) (ns : List K4) (t : Int) (ms : List K4) (l : List ((Int × Int) × Unit)) (n : Int) : Prop := ∀ p ∈ l.map (·.1), lvl s (levs s ns) p.1 ≤ n → tr s ns p.1 = tr t ms p.2
structure Clo (w : World) (a b ca cb cs cf M : Nat) : Prop where
  ha : w.heap[ca]? = some (.cells #[.pointer (some ⟨a, 0, none⟩)] 26 (0, 0))
  hb : w.heap[cb]? = some (.cells #[.pointer (some ⟨b, 0, none⟩)] 26 (0, 0))
  hs : w.heap[cs]? = some (.cells #[.map (some M)] 68 (0, 0))
  hf : w.heap[cf]? = some (.cells #[.func (.func 31) #[] #[.pointer (some ⟨ca, 0, none⟩), .pointer (some ⟨cb, 0, none⟩), .pointer (some ⟨cs, 0, none⟩), .pointer (some ⟨cf, 0, none⟩)]] 69 (0, 0))
  ne : ca ≠ M ∧ cb ≠ M ∧ cs ≠ M ∧ cf ≠ M
theorem Clo.fr {w w' : World} {a b ca cb cs cf M : Nat} (h : Clo w a b ca cb cs cf M) (hf : Fr [M] w w') : Clo w' a b ca cb cs cf M :=
  ⟨(hf.block _ (lt_of_block h.ha) (by simpa using h.ne.1)).trans h.ha, (hf.block _ (lt_of_block h.hb) (by simpa using h.ne.2.1)).trans h.hb, (hf.block _ (lt_of_block h.hs) (by simpa using h.ne.2.2.1)).trans h.hs, (hf.block _ (lt_of_block h.hf) (by simpa using h.ne.2.2.2)).trans h.hf, h.ne⟩
def AlkPost (w : World) (M : Nat) (s : Int) (ns : List K4) (t : Int) (ms : List K4) (x y : Int) (l : List ((Int × Int) × Unit)) (e : Ending) (w' : World) : Prop :=
  e = .returned (.bool (decide (tr s ns x = tr t ms y))) ∧ ∃ l', MapIs w' M kp gu l' ∧ (tr s ns x = tr t ms y → ∀ p ∈ l'.map (·.1), p ∈ l.map (·.1) ∨ tr s ns p.1 = tr t ms p.2) ∧ Fr [M] w w'
theorem kn_kj {s : Int} {ns : List K4} (h : GoodQ s ns) {i : Nat} {k : K4} (hk : ns[i]? = some k) (j : Nat) : Kn s ns (kj k j) ∧ lvl s (levs s ns) (kj k j) + 1 = lvl s (levs s ns) (s + i) := by
  obtain ⟨g1, _, _, g2, g3, g4⟩ := good_lvl h hk
  obtain ⟨ka, kb, kc, kd⟩ := good_kids h hk
  have hi := (List.getElem?_eq_some_iff.1 hk).1
  match j with
  | 0 => exact ⟨⟨ka.1, by show k.a < _; omega⟩, by show lvl _ _ k.a + 1 = _; omega⟩
  | 1 => exact ⟨⟨kb.1, by show k.b < _; omega⟩, by show lvl _ _ k.b + 1 = _; omega⟩
  | 2 => exact ⟨⟨kc.1, by show k.c < _; omega⟩, by show lvl _ _ k.c + 1 = _; omega⟩
  | n + 3 => exact ⟨⟨kd.1, by show k.d < _; omega⟩, by show lvl _ _ k.d + 1 = _; omega⟩
theorem kids_cell {w : World} {b : Nat} {k : K4} {T : TypeId} {fr : Nat × Nat} (h : w.heap[b]? = some (.cells #[.int .i64 k.a, .int .i64 k.b, .int .i64 k.c, .int .i64 k.d] T fr)) {j : Nat} (hj : j < 4) : w.cell? ⟨b, j, none⟩ = some (.int .i64 (kj k j)) := by
  rw [heap_eq_cell h]
  match j, hj with
  | 0, _ => rfl
  | 1, _ => rfl
  | 2, _ => rfl
  | 3, _ => rfl
set_option maxHeartbeats 16000000 in
set_option maxRecDepth 100000 in
theorem alike_calls {a b ca cb cs cf M : Nat} {s t : Int} {ns ms : List K4} {F G : List Nat} (hMF : M ∉ F) (hMG : M ∉ G) : ∀ (n : Nat) (w : World) (l : List ((Int × Int) × Unit)) (x y : Int), StoreAt w a s ns F → StoreAt w b t ms G → Clo w a b ca cb cs cf M →
    MapIs w M kp gu l → Kn s ns x → Kn t ms y → lvl s (levs s ns) x = n → lvl t (levs t ms) y = n → Seen s ns t ms l n →
    Calls Try.prog 31 #[.int .i64 x, .int .i64 y, .pointer (some ⟨ca, 0, none⟩), .pointer (some ⟨cb, 0, none⟩), .pointer (some ⟨cs, 0, none⟩), .pointer (some ⟨cf, 0, none⟩)] w (AlkPost w M s ns t ms x y l) := by
  intro n
  induction n with
  | zero =>
    intro w l x y hA hB hC hM kx ky lx ly hI
    have hs := hA.1.1
    have ht := hB.1.1
    have hxs : x < s := by
      rcases kx.cases with h | ⟨i, k, rfl, hk⟩
      · exact h.2
      · have := good_lvl hA.1 hk; omega
    have hyt : y < t := by
      rcases ky.cases with h | ⟨i, k, rfl, hk⟩
      · exact h.2
      · have := good_lvl hB.1 hk; omega
    have hk1 : kidsOf s ns x = (⟨0, 0, 0, 0⟩, false) := by unfold kidsOf; rw [if_pos hxs]
    have hk2 : kidsOf t ms y = (⟨0, 0, 0, 0⟩, false) := by unfold kidsOf; rw [if_pos hyt]
    have hK1 := fun w1 (hf : Fr [] w w1) => Kids_calls (hA.fr hf (by simp)) x
    have hK2 := fun w1 (hf : Fr [] w w1) => Kids_calls (hB.fr hf (by simp)) y
    rw [hk1] at hK1
    rw [hk2] at hK2
    have hres : decide (tr s ns x = tr t ms y) = (x == y) := by
      rw [tr_leaf hxs, tr_leaf hyt, Bool.eq_iff_iff]; simp
    have a0 := heap_eq_cell hC.ha 0
    have al := lt_of_block hC.ha
    have b0 := heap_eq_cell hC.hb 0
    have bl := lt_of_block hC.hb
    have HK1 := Lib.hid hK1
    have HK2 := Lib.hid hK2
    have Hres := Lib.hid hres
    have HA := Lib.hid hA
    have HB := Lib.hid hB
    have HC := Lib.hid hC
    have HM := Lib.hid hM
    have HI := Lib.hid hI
    clear hK1 hK2 hres hA hB hC hM hI hk1 hk2 kx ky lx ly
    go_enter Try.func31, Try.ntmps31
    go_wp2_with fail
    refine (HK1.out _ (by (repeat (first | exact Fr.refl _ _ | assumption | apply Fr.drewN | apply Fr.drew | apply Fr.alloc | refine Fr.setCell ?_ (Or.inr (by simp; try omega)) _)))).mono ?_
    unfold kv
    rintro e w1 ⟨rfl, hf⟩
    have hf' : Fr [] w w1 := Fr.trans0 (by (repeat (first | exact Fr.refl _ _ | assumption | apply Fr.drewN | apply Fr.drew | apply Fr.alloc | refine Fr.setCell ?_ (Or.inr (by simp; try omega)) _))) hf
    have b0' := (hf'.cell (p := ⟨cb, 0, none⟩) bl (by simp)).trans b0
    have bl' : cb < w1.heap.size := by have := hf'.size; omega
    have Hf := Lib.hid hf'
    clear hf hf' b0
    go_wp2_with fail
    refine (HK2.out _ (by have := Hf.out; (repeat (first | exact Fr.refl _ _ | assumption | apply Fr.drewN | apply Fr.drew | apply Fr.alloc | refine Fr.setCell ?_ (Or.inr (by simp; try omega)) _)))).mono ?_
    unfold kv
    rintro e w2 ⟨rfl, hf⟩
    have hf0 := Hf.out
    have Hf2 := Lib.hid (Fr.trans0 (by (repeat (first | exact Fr.refl _ _ | assumption | apply Fr.drewN | apply Fr.drew | apply Fr.alloc | refine Fr.setCell ?_ (Or.inr (by simp; try omega)) _)) : Fr [] w _) hf)
    clear hf hf0
    go_wp2
    go_ret
    refine ⟨by rw [Hres.out]; rfl, l, HM.out.of_block (?_), fun _ p hp => .inl hp, ?_⟩
    · have h2 := Hf2.out
      have hm := HM.out.lt
      exact (Fr.alloc h2 _).block _ hm (by simp)
    · have h2 := Hf2.out
      exact (h2.alloc _).mono (by simp)
  | succ n ih =>
    intro w l x y hA hB hC hM kx ky lx ly hI
    have hs := hA.1.1
    have ht := hB.1.1
    obtain ⟨i, k, rfl, hk⟩ : ∃ i k, x = s + (i : Nat) ∧ ns[i]? = some k := by
      rcases kx.cases with h | h
      · exfalso; unfold lvl at lx; rw [if_neg (by omega), if_pos h.2] at lx; omega
      · exact h
    obtain ⟨o, k', rfl, hk'⟩ : ∃ o k', y = t + (o : Nat) ∧ ms[o]? = some k' := by
      rcases ky.cases with h | h
      · exfalso; unfold lvl at ly; rw [if_neg (by omega), if_pos h.2] at ly; omega
      · exact h
    have hk1 : kidsOf s ns (s + i) = (k, true) := by unfold kidsOf; rw [if_neg (by omega), show (s + (i : Int) - s).toNat = i by omega, hk]
    have hk2 : kidsOf t ms (t + o) = (k', true) := by unfold kidsOf; rw [if_neg (by omega), show (t + (o : Int) - t).toNat = o by omega, hk']
    have hK1 := fun w1 (hf : Fr [] w w1) => Kids_calls (hA.fr hf (by simp)) (s + i)
    have hK2 := fun w1 (hf : Fr [] w w1) => Kids_calls (hB.fr hf (by simp)) (t + o)
    rw [hk1] at hK1
    rw [hk2] at hK2
    have hres : tr s ns (s + i) = tr t ms (t + o) ↔ ∀ j, j < 4 → tr s ns (kj k j) = tr t ms (kj k' j) := by
      rw [tr_node hA.1 hk, tr_node hB.1 hk']
      constructor
      · intro h
        injection h with e1 e2 e3 e4
        intro j hj
        match j, hj with
        | 0, _ => exact e1
        | 1, _ => exact e2
        | 2, _ => exact e3
        | 3, _ => exact e4
      · intro h
        have e1 := h 0 (by omega)
        have e2 := h 1 (by omega)
        have e3 := h 2 (by omega)
        have e4 := h 3 (by omega)
        simp only [kj] at e1 e2 e3 e4
        rw [e1, e2, e3, e4]
    have hki := fun j => kn_kj hA.1 hk j
    have hko := fun j => kn_kj hB.1 hk' j
    have a0 := heap_eq_cell hC.ha 0
    have al := lt_of_block hC.ha
    have b0 := heap_eq_cell hC.hb 0
    have bl := lt_of_block hC.hb
    have s0 := heap_eq_cell hC.hs 0
    have sl := lt_of_block hC.hs
    have HK1 := Lib.hid hK1
    have HK2 := Lib.hid hK2
    have Hres := Lib.hid hres
    have HA := Lib.hid hA
    have HB := Lib.hid hB
    have HC := Lib.hid hC
    have HM := Lib.hid hM
    have HI := Lib.hid hI
    have Hki := Lib.hid hki
    have Hko := Lib.hid hko
    have Hlx := Lib.hid lx
    have Hly := Lib.hid ly
    have IH := Lib.hid ih
    clear hK1 hK2 hres hA hB hC hM hI hk1 hk2 kx ky lx ly hki hko ih hk hk'
    generalize hX : s + (i : Int) = X at *
    generalize hY : t + (o : Int) = Y at *
    clear hX hY
    go_enter Try.func31, Try.ntmps31
    go_wp2_with fail
    refine (HK1.out _ (by (repeat (first | exact Fr.refl _ _ | assumption | apply Fr.drewN | apply Fr.drew | apply Fr.alloc | refine Fr.setCell ?_ (Or.inr (by simp; try omega)) _)))).mono ?_
    unfold kv
    rintro e w1 ⟨rfl, hf⟩
    have hf' : Fr [] w w1 := Fr.trans0 (by (repeat (first | exact Fr.refl _ _ | assumption | apply Fr.drewN | apply Fr.drew | apply Fr.alloc | refine Fr.setCell ?_ (Or.inr (by simp; try omega)) _))) hf
    have b0' := (hf'.cell (p := ⟨cb, 0, none⟩) bl (by simp)).trans b0
    have bl' : cb < w1.heap.size := by have := hf'.size; omega
    have Hf := Lib.hid hf'
    clear hf hf' b0
    go_wp2_with fail
    refine (HK2.out _ (by have := Hf.out; (repeat (first | exact Fr.refl _ _ | assumption | apply Fr.drewN | apply Fr.drew | apply Fr.alloc | refine Fr.setCell ?_ (Or.inr (by simp; try omega)) _)))).mono ?_
    unfold kv
    rintro e w2 ⟨rfl, hf⟩
    have hf0 := Hf.out
    have hf2 := Fr.trans0 (by (repeat (first | exact Fr.refl _ _ | assumption | apply Fr.drewN | apply Fr.drew | apply Fr.alloc | refine Fr.setCell ?_ (Or.inr (by simp; try omega)) _)) : Fr [] w _) hf
    have hA1 := (hf.block w1.heap.size (by simp) (by simp)).trans (show _ = some (.cells #[.int .i64 k.a, .int .i64 k.b, .int .i64 k.c, .int .i64 k.d] 57 (0, 0)) by (repeat (first | rw [if_pos (by omega)] | rw [if_neg (by omega)] | rw [hp_drew] | rw [hp_drewN] | rw [hp_alloc_size] | rw [hp_setCell_size] | rw [hp_alloc] | rw [hp_setCell] | rw [Option.map_some] | rw [upd_cells] | rw [List.set_cons_zero] | rw [List.set_cons_succ] | rfl)))
    have HA1 := Lib.hid hA1
    have hl1 := lt_of_block hA1
    have s0' := (hf2.cell (p := ⟨cs, 0, none⟩) sl (by simp)).trans s0
    have sl' : cs < w2.heap.size := by have := hf2.size; omega
    have Hf2 := Lib.hid hf2
    have hm2 := HM.out.of_block (hf2.block _ HM.out.lt (by simp))
    have Hm2 := Lib.hid hm2
    have hm2l := hm2.lt
    clear hf hf0 hf2 hA1 s0 hm2
    by_cases hin : (X, Y) ∈ l.map (·.1)
    · have Hin := Lib.hid hin
      clear hin
      go_wp2_with (at_lookup; refine wpList_lookup_hit (f := kp) (g := gu) (k := (X, Y)) (v := ()) (z := .bool false) rfl rfl rfl rfl (Hm2.out.of_block (heap_alloc_else _ _ _ hm2l)) Try.underlying68 keys2 (by kernel_rfl) (get_mem Hin.out) ?_)
      go_ret
      have hxy := HI.out (X, Y) Hin.out (by have := Hlx.out; show lvl s (levs s ns) X ≤ _; omega)
      refine ⟨by rw [decide_eq_true hxy]; rfl, l, Hm2.out.of_block (heap_alloc_else _ _ _ hm2l), fun _ p hp => .inl hp, ((Hf2.out.alloc _).mono (by simp))⟩
    · have Hin := Lib.hid hin
      clear hin
      go_wp2_with (first | (at_lookup; refine wpList_lookup_miss (f := kp) (g := gu) (k := (X, Y)) (z := .bool false) rfl rfl rfl rfl (Hm2.out.of_block (heap_alloc_else _ _ _ hm2l)) Try.underlying68 keys2 (by kernel_rfl) (get_not Hin.out) ?_) | (at_mapUpdate; refine wpList_update_fr (f := kp) (g := gu) (k := (X, Y)) (v := ()) rfl rfl rfl rfl rfl (Hm2.out.of_block (heap_alloc_else _ _ _ hm2l)) Try.underlying68 keys2 ?_))
      intro w3 hm3 hf3 hsz3
      have hMw : M < w.heap.size := HM.out.lt
      have hMw1 : M < w1.heap.size := by have := Hf.out.size; omega
      have hMw2 : M < w2.heap.size := by have := Hf2.out.size; omega
      have hk3 := (hf3.block w1.heap.size (by rw [hp_alloc_size]; omega) (by simp; omega)).trans ((heap_alloc_else _ _ _ hl1).trans HA1.out)
      have hk4 := (hf3.block w2.heap.size (by rw [hp_alloc_size]; omega) (by simp; omega)).trans (show _ = some (.cells #[.int .i64 k'.a, .int .i64 k'.b, .int .i64 k'.c, .int .i64 k'.d] 57 (0, 0)) by (repeat (first | rw [if_pos (by omega)] | rw [if_neg (by omega)] | rw [hp_drew] | rw [hp_drewN] | rw [hp_alloc_size] | rw [hp_setCell_size] | rw [hp_alloc] | rw [hp_setCell] | rw [Option.map_some] | rw [upd_cells] | rw [List.set_cons_zero] | rw [List.set_cons_succ] | rfl)))
      have hfw : Fr [M] w w3 := ((Hf2.out.alloc _).mono (by simp)).trans hf3 fun x hx => .inl hx
      have Hm3 := Lib.hid hm3
      have Hk3 := Lib.hid hk3
      have Hk4 := Lib.hid hk4
      have Hfw := Lib.hid hfw
      have hkl3 := lt_of_block hk3
      have hkl4 := lt_of_block hk4
      have hput : ∀ p ∈ (put l (X, Y) ()).map (·.1), p = (X, Y) ∨ p ∈ l.map (·.1) ∨ tr s ns p.1 = tr t ms p.2 := fun p hp => by
        rw [put_mem Hin.out, List.mem_append, List.mem_singleton] at hp
        rcases hp with hp | hp
        · exact .inr (.inl hp)
        · exact .inl hp
      have Hput := Lib.hid hput
      clear hm3 hf3 hk3 hk4 hfw hput s0' b0' a0
      go_wp2_with fail
      go_loopw [49] (fun xx wl => ∃ (j : Nat) (lj : List ((Int × Int) × Unit)), xx = .int .i64 j ∧ j ≤ 4 ∧ (∀ q, q < j → tr s ns (kj k q) = tr t ms (kj k' q)) ∧ MapIs wl M kp gu lj ∧ (∀ p ∈ lj.map (·.1), p = (X, Y) ∨ p ∈ l.map (·.1) ∨ tr s ns p.1 = tr t ms p.2) ∧ Fr [M] w3 wl) (fun xx _ => 4 - (intOf xx).toNat)
      case atStart => exact ⟨0, _, rfl, by omega, by omega, Hm3.out, Hput.out, Fr.refl _ _⟩
      case round =>
        obtain ⟨j, lj, rfl, hj, hq, hm, hp, hf⟩ := hrel
        have hfw : Fr [M] w wr := Hfw.out.trans hf fun x hx => .inl hx
        have hk1 := (hf.block w1.heap.size hkl3 (by simp; omega)).trans Hk3.out
        have hk2 := (hf.block w2.heap.size hkl4 (by simp; omega)).trans Hk4.out
        have hC := HC.out.fr hfw
        have hA := HA.out.fr hfw (fun x hx => by simpa using fun e : x = M => hMF (e ▸ hx))
        have hB := HB.out.fr hfw (fun x hx => by simpa using fun e : x = M => hMG (e ▸ hx))
        have f0 := heap_eq_cell hC.hf 0
        have fl := lt_of_block hC.hf
        have hl1' := lt_of_block hk1
        have hl2' := lt_of_block hk2
        have Hq := Lib.hid hq
        have Hm := Lib.hid hm
        have Hp := Lib.hid hp
        have Hfr := Lib.hid hfw
        have Hf3 := Lib.hid hf
        by_cases hj4 : j < 4
        · have c1 := kids_cell hk1 hj4
          have c2 := kids_cell hk2 hj4
          have hseen : Seen s ns t ms lj n := fun p hp' hlp => by
            rcases hp p hp' with rfl | h | h
            · have := Hlx.out; simp only at hlp; omega
            · exact HI.out p h (by omega)
            · exact h
          have hcall := fun w6 (hf6 : Fr [] wr w6) => IH.out w6 lj (kj k j) (kj k' j) (hA.fr hf6 (by simp)) (hB.fr hf6 (by simp)) (hC.fr (hf6.mono (by simp))) (hm.of_block (hf6.block _ hm.lt (by simp))) (Hki.out j).1 (Hko.out j).1 (by have := (Hki.out j).2; have := Hlx.out; omega) (by have := (Hko.out j).2; have := Hly.out; omega) hseen
          have Hcall := Lib.hid hcall
          clear hq hm hp hfw hf hk1 hk2 hC hA hB hseen hcall
          go_wp2_with fail
          (refine wp_region_text (by kernel_rfl) (by kernel_rfl) ?_)
          go_wp2_with fail
          refine (Hcall.out _ (by (repeat (first | exact Fr.refl _ _ | assumption | apply Fr.drewN | apply Fr.drew | apply Fr.alloc | refine Fr.setCell ?_ (Or.inr (by simp; try omega)) _)))).mono ?_
          rintro e w6 ⟨rfl, lj', hm', hp', hf'⟩
          have hfr' : Fr [M] wr w6 := (Fr.mono (by (repeat (first | exact Fr.refl _ _ | assumption | apply Fr.drewN | apply Fr.drew | apply Fr.alloc | refine Fr.setCell ?_ (Or.inr (by simp; try omega)) _)) : Fr [] wr wr.drew) (by simp)).trans hf' fun x hx => .inl hx
          have Hm' := Lib.hid hm'
          have Hp' := Lib.hid hp'
          have Hfr' := Lib.hid hfr'
          clear hm' hp' hf' hfr' f0 c1 c2
          by_cases he : tr s ns (kj k j) = tr t ms (kj k' j)
          · have He := Lib.hid he
            rw [decide_eq_true he]
            clear he
            go_wp2
            refine Strict.intro rfl ?_
            go_wp2
            go_roundw
            case rel =>
              refine ⟨j + 1, lj', by go_num, by omega, fun q hq => ?_, Hm'.out, fun p hp => ?_, Hf3.out.trans Hfr'.out fun x hx => .inl hx⟩
              · by_cases h : q = j
                · rw [h]; exact He.out
                · exact Hq.out q (by omega)
              · rcases Hp'.out He.out p hp with h | h
                · exact Hp.out p h
                · exact .inr (.inr h)
            case measure => simp [intOf]; omega
          · have He := Lib.hid he
            rw [decide_eq_false he]
            clear he
            go_wp2
            refine Strict.intro rfl ?_
            go_wp2
            go_ret
            have hne : ¬ tr s ns X = tr t ms Y := fun h => He.out (Hres.out.1 h j (by omega))
            exact ⟨by rw [decide_eq_false hne]; rfl, lj', Hm'.out, fun h => absurd h hne, Hfr.out.trans Hfr'.out fun x hx => .inl hx⟩
        · obtain rfl : j = 4 := by omega
          clear hq hm hp hfw hf hk1 hk2 hC hA hB
          go_wp2
          go_ret
          have hxy := Hres.out.2 Hq.out
          refine ⟨by rw [decide_eq_true hxy]; rfl, lj, Hm.out, fun _ p hp => ?_, Hfr.out⟩
          rcases Hp.out p hp with rfl | h | h
          · exact .inr hxy
          · exact .inl h
          · exact .inr h
theorem Alike_nil1 (x y : Int) (q : Option Addr) (w : World) : Calls Try.prog 18 #[.pointer none, .int .i64 x, .pointer q, .int .i64 y] w fun e w' => e = .returned (.bool false) ∧ Fr [] w w' := by
  go_enter Try.func18, Try.ntmps18
  go_wp2
  refine wp_region_segs [([0, 1, 2, 3, 4, 5, 6, 7, 8, 9, 10, 11, 12, 13, 14, 16, 15], [16]), ([17, 18, 19, 20], [])] (by kernel_rfl) (by kernel_rfl) ?_
  (simp only [wpSegs, pick, Array.getD_eq_getD_getElem?, List.getElem?_toArray, List.getElem?_cons_succ, List.getElem?_cons_zero, Option.getD_some])
  go_wp2
  refine Mid.intro ⟨⟨fun o ho hw => by obtain rfl := Option.some.inj ho; exact absurd hw (by simp [Region.wanted, yielded]), trivial⟩, ?_⟩
  go_wp2
  refine Mid.intro ⟨trivial, Strict.intro rfl ?_⟩
  go_wp2
  go_ret
  exact ⟨rfl, by (repeat (first | exact Fr.refl _ _ | assumption | apply Fr.drewN | apply Fr.drew | apply Fr.alloc | refine Fr.setCell ?_ (Or.inr (by simp; try omega)) _))⟩
theorem Alike_nil2 (x y : Int) (a : Nat) (w : World) : Calls Try.prog 18 #[.pointer (some ⟨a, 0, none⟩), .int .i64 x, .pointer none, .int .i64 y] w fun e w' => e = .returned (.bool false) ∧ Fr [] w w' := by
  go_enter Try.func18, Try.ntmps18
  go_wp2
  refine wp_region_segs [([0, 1, 2, 3, 4, 5, 6, 7, 8, 9, 10, 11, 12, 13, 14, 16, 15], [16]), ([17, 18, 19, 20], [])] (by kernel_rfl) (by kernel_rfl) ?_
  (simp only [wpSegs, pick, Array.getD_eq_getD_getElem?, List.getElem?_toArray, List.getElem?_cons_succ, List.getElem?_cons_zero, Option.getD_some])
  go_wp2
  refine Mid.intro ⟨⟨fun o ho hw => by obtain rfl := Option.some.inj ho; exact absurd hw (by simp [Region.wanted, yielded]), trivial⟩, ?_⟩
  go_wp2
  refine Mid.intro ⟨trivial, Strict.intro rfl ?_⟩
  go_wp2
  go_ret
  exact ⟨rfl, by (repeat (first | exact Fr.refl _ _ | assumption | apply Fr.drewN | apply Fr.drew | apply Fr.alloc | refine Fr.setCell ?_ (Or.inr (by simp; try omega)) _))⟩
set_option maxHeartbeats 4000000 in
set_option maxRecDepth 100000 in
theorem Alike_calls {w : World} {a b : Nat} {s t : Int} {ns ms : List K4} {F G : List Nat} (hA : StoreAt w a s ns F) (hB : StoreAt w b t ms G) (x y : Int) :
    Calls Try.prog 18 #[.pointer (some ⟨a, 0, none⟩), .int .i64 x, .pointer (some ⟨b, 0, none⟩), .int .i64 y] w fun e w' => e = .returned (.bool (decide (Alk s ns x t ms y))) ∧ Fr [] w w' := by
  have hL1 := fun w1 (hf : Fr [] w w1) => Level_calls (hA.fr hf (by simp)) x
  have hL2 := fun w1 (hf : Fr [] w w1) => Level_calls (hB.fr hf (by simp)) y
  have hkx := kn_lvl hA.1 x
  have hky := kn_lvl hB.1 y
  have hlt : Kn s ns x → Kn t ms y → tr s ns x = tr t ms y → lvl s (levs s ns) x = lvl t (levs t ms) y := lvl_of_tr hA.1 hB.1
  obtain ⟨lx, hlx⟩ : ∃ l, l = lvl s (levs s ns) x := ⟨_, rfl⟩
  obtain ⟨ly, hly⟩ : ∃ l, l = lvl t (levs t ms) y := ⟨_, rfl⟩
  rw [← hlx] at hL1 hkx hlt
  rw [← hly] at hL2 hky hlt
  by_cases h0 : lx < 0
  · have hno : ¬ Alk s ns x t ms y := fun h => by have := hkx.2 h.1; omega
    have Hno := Lib.hid hno
    have HL1 := Lib.hid hL1
    clear hno hkx hky hlt hlx hly hL1 hL2 hA hB
    go_enter Try.func18, Try.ntmps18
    go_wp2
    refine wp_region_segs [([0, 1, 2, 3, 4, 5, 6, 7, 8, 9, 10, 11, 12, 13, 14, 16, 15], [16]), ([17, 18, 19, 20], [])] (by kernel_rfl) (by kernel_rfl) ?_
    (simp only [wpSegs, pick, Array.getD_eq_getD_getElem?, List.getElem?_toArray, List.getElem?_cons_succ, List.getElem?_cons_zero, Option.getD_some])
    go_wp2_with fail
    refine (HL1.out _ (by (repeat (first | exact Fr.refl _ _ | assumption | apply Fr.drewN | apply Fr.drew | apply Fr.alloc | refine Fr.setCell ?_ (Or.inr (by simp; try omega)) _)))).mono ?_
    rintro e w1 ⟨rfl, hd⟩
    have Hd := Lib.hid (Fr.trans0 (by (repeat (first | exact Fr.refl _ _ | assumption | apply Fr.drewN | apply Fr.drew | apply Fr.alloc | refine Fr.setCell ?_ (Or.inr (by simp; try omega)) _)) : Fr [] w _) (hd.fr []))
    clear hd
    go_wp2
    refine Mid.intro ⟨⟨fun o ho hw => by obtain rfl := Option.some.inj ho; exact absurd hw (by simp [Region.wanted, yielded]), trivial⟩, ?_⟩
    go_wp2
    refine Mid.intro ⟨trivial, Strict.intro rfl ?_⟩
    go_wp2
    go_ret
    exact ⟨by rw [decide_eq_false Hno.out]; rfl, Hd.out⟩
  have hlx0 : decide (lx < 0) = false := by simpa using h0
  by_cases he : lx = ly
  rotate_left
  · have hno : ¬ Alk s ns x t ms y := fun h => he (hlt h.1 h.2.1 h.2.2)
    have hb : (lx != ly) = true := by simpa using he
    have Hno := Lib.hid hno
    have HL1 := Lib.hid hL1
    have HL2 := Lib.hid hL2
    clear hno hkx hky hlt hlx hly hL1 hL2 hA hB he
    go_enter Try.func18, Try.ntmps18
    go_wp2
    refine wp_region_segs [([0, 1, 2, 3, 4, 5, 6, 7, 8, 9, 10, 11, 12, 13, 14, 16, 15], [16]), ([17, 18, 19, 20], [])] (by kernel_rfl) (by kernel_rfl) ?_
    (simp only [wpSegs, pick, Array.getD_eq_getD_getElem?, List.getElem?_toArray, List.getElem?_cons_succ, List.getElem?_cons_zero, Option.getD_some])
    go_wp2_with fail
    refine (HL1.out _ (by (repeat (first | exact Fr.refl _ _ | assumption | apply Fr.drewN | apply Fr.drew | apply Fr.alloc | refine Fr.setCell ?_ (Or.inr (by simp; try omega)) _)))).mono ?_
    rintro e w1 ⟨rfl, hd⟩
    have hf1 : Fr [] w w1 := (Fr.trans0 (by (repeat (first | exact Fr.refl _ _ | assumption | apply Fr.drewN | apply Fr.drew | apply Fr.alloc | refine Fr.setCell ?_ (Or.inr (by simp; try omega)) _)) : Fr [] w _) (hd.fr []))
    have a1 := ((hd.fr []).block w.heap.size (by simp; omega) (by simp)).trans (show _ = some (.cells #[.pointer (some ⟨a, 0, none⟩)] 26 (0, 0)) by (repeat (first | rw [if_pos (by omega)] | rw [if_neg (by omega)] | rw [hp_drew] | rw [hp_drewN] | rw [hp_alloc_size] | rw [hp_setCell_size] | rw [hp_alloc] | rw [hp_setCell] | rw [Option.map_some] | rw [upd_cells] | rw [List.set_cons_zero] | rw [List.set_cons_succ] | rfl)))
    have b1 := ((hd.fr []).block (w.heap.size + 1) (by simp) (by simp)).trans (show _ = some (.cells #[.pointer (some ⟨b, 0, none⟩)] 26 (0, 0)) by (repeat (first | rw [if_pos (by omega)] | rw [if_neg (by omega)] | rw [hp_drew] | rw [hp_drewN] | rw [hp_alloc_size] | rw [hp_setCell_size] | rw [hp_alloc] | rw [hp_setCell] | rw [Option.map_some] | rw [upd_cells] | rw [List.set_cons_zero] | rw [List.set_cons_succ] | rfl)))
    have a0 := heap_eq_cell a1 0
    have b0 := heap_eq_cell b1 0
    have al := lt_of_block a1
    have bl := lt_of_block b1
    have Ha1 := Lib.hid a1
    have Hb1 := Lib.hid b1
    have Hd := Lib.hid hf1
    clear hd a1 b1 hf1
    go_wp2_with fail
    refine (HL1.out _ Hd.out).mono ?_
    rintro e w2 ⟨rfl, hd⟩
    have hf2 := Hd.out.trans0 (hd.fr [])
    have b2 := ((hd.fr []).block (w.heap.size + 1) bl (by simp)).trans Hb1.out
    have b0' := heap_eq_cell b2 0
    have bl' := lt_of_block b2
    have Hf2 := Lib.hid hf2
    clear hd hf2 b2 b0 a0
    go_wp2
    refine Mid.intro ⟨⟨again_cell (T := 26) rfl rfl rfl Try.underlying26 rfl b0' rfl, trivial⟩, ?_⟩
    go_wp2_with fail
    refine (HL2.out _ Hf2.out).mono ?_
    rintro e w3 ⟨rfl, hd⟩
    have Hf3 := Lib.hid (Hf2.out.trans0 (hd.fr []))
    clear hd
    go_wp2
    refine Mid.intro ⟨trivial, Strict.intro rfl ?_⟩
    go_wp2
    go_ret
    exact ⟨by rw [decide_eq_false Hno.out]; rfl, Hf3.out⟩
  · subst he
    clear hlx0
    have hb : (lx != lx) = false := by simp
    have hnx := hkx.1 (by omega)
    have hny := hky.1 (by omega)
    have hdec : decide (Alk s ns x t ms y) = decide (tr s ns x = tr t ms y) := decide_eq_decide.2 ⟨fun h => h.2.2, fun h => ⟨hnx, hny, h⟩⟩
    obtain ⟨n, rfl⟩ : ∃ n : Nat, lx = n := ⟨lx.toNat, by omega⟩
    have hn0 : decide ((n : Int) < 0) = false := by simp
    have HA := Lib.hid hA
    have HB := Lib.hid hB
    have HL1 := Lib.hid hL1
    have HL2 := Lib.hid hL2
    have Hdec := Lib.hid hdec
    have Hlx := Lib.hid hlx
    have Hly := Lib.hid hly
    have Hnx := Lib.hid hnx
    have Hny := Lib.hid hny
    clear hdec hkx hky hlt hlx hly hL1 hL2 hA hB hnx hny
    go_enter Try.func18, Try.ntmps18
    go_wp2
    refine wp_region_segs [([0, 1, 2, 3, 4, 5, 6, 7, 8, 9, 10, 11, 12, 13, 14, 16, 15], [16]), ([17, 18, 19, 20], [])] (by kernel_rfl) (by kernel_rfl) ?_
    (simp only [wpSegs, pick, Array.getD_eq_getD_getElem?, List.getElem?_toArray, List.getElem?_cons_succ, List.getElem?_cons_zero, Option.getD_some])
    go_wp2_with fail
    refine (HL1.out _ (by (repeat (first | exact Fr.refl _ _ | assumption | apply Fr.drewN | apply Fr.drew | apply Fr.alloc | refine Fr.setCell ?_ (Or.inr (by simp; try omega)) _)))).mono ?_
    rintro e w1 ⟨rfl, hd⟩
    have hf1 : Fr [] w w1 := (Fr.trans0 (by (repeat (first | exact Fr.refl _ _ | assumption | apply Fr.drewN | apply Fr.drew | apply Fr.alloc | refine Fr.setCell ?_ (Or.inr (by simp; try omega)) _)) : Fr [] w _) (hd.fr []))
    have a1 := ((hd.fr []).block w.heap.size (by simp; omega) (by simp)).trans (show _ = some (.cells #[.pointer (some ⟨a, 0, none⟩)] 26 (0, 0)) by (repeat (first | rw [if_pos (by omega)] | rw [if_neg (by omega)] | rw [hp_drew] | rw [hp_drewN] | rw [hp_alloc_size] | rw [hp_setCell_size] | rw [hp_alloc] | rw [hp_setCell] | rw [Option.map_some] | rw [upd_cells] | rw [List.set_cons_zero] | rw [List.set_cons_succ] | rfl)))
    have b1 := ((hd.fr []).block (w.heap.size + 1) (by simp) (by simp)).trans (show _ = some (.cells #[.pointer (some ⟨b, 0, none⟩)] 26 (0, 0)) by (repeat (first | rw [if_pos (by omega)] | rw [if_neg (by omega)] | rw [hp_drew] | rw [hp_drewN] | rw [hp_alloc_size] | rw [hp_setCell_size] | rw [hp_alloc] | rw [hp_setCell] | rw [Option.map_some] | rw [upd_cells] | rw [List.set_cons_zero] | rw [List.set_cons_succ] | rfl)))
    have a0 := heap_eq_cell a1 0
    have b0 := heap_eq_cell b1 0
    have al := lt_of_block a1
    have bl := lt_of_block b1
    have Ha1 := Lib.hid a1
    have Hb1 := Lib.hid b1
    have Hd := Lib.hid hf1
    clear hd a1 b1 hf1
    go_wp2_with fail
    refine (HL1.out _ Hd.out).mono ?_
    rintro e w2 ⟨rfl, hd⟩
    have hf2 := Hd.out.trans0 (hd.fr [])
    have b2 := ((hd.fr []).block (w.heap.size + 1) bl (by simp)).trans Hb1.out
    have a2 := ((hd.fr []).block w.heap.size al (by simp)).trans Ha1.out
    have b0' := heap_eq_cell b2 0
    have bl' := lt_of_block b2
    have Ha2 := Lib.hid a2
    have Hb2 := Lib.hid b2
    have Hf2 := Lib.hid hf2
    clear hd hf2 b2 b0 a0 a2
    go_wp2
    refine Mid.intro ⟨⟨again_cell (T := 26) rfl rfl rfl Try.underlying26 rfl b0' rfl, trivial⟩, ?_⟩
    go_wp2_with fail
    refine (HL2.out _ Hf2.out).mono ?_
    rintro e w3 ⟨rfl, hd⟩
    have a3 := ((hd.fr []).block w.heap.size (lt_of_block Ha2.out) (by simp)).trans Ha2.out
    have b3 := ((hd.fr []).block (w.heap.size + 1) bl' (by simp)).trans Hb2.out
    have al3 := lt_of_block a3
    have bl3 := lt_of_block b3
    have Ha3 := Lib.hid a3
    have Hb3 := Lib.hid b3
    have Hf3 := Lib.hid (Hf2.out.trans0 (hd.fr []))
    clear hd b0' a3 b3
    have hmm := @run_makeMap Try.prog
    have hmf : ∀ (fn : Fn) (first cap : Array Value) (w : World), (Instr.makeFunc fn first cap).run Try.prog w = .ok (.func fn first cap) w := fun _ _ _ _ => rfl
    go_wp2
    refine Mid.intro ⟨trivial, Strict.intro rfl ?_⟩
    go_wp2_with fail
    have hFl : w3.heap.size ∉ F := fun h => by have := HA.out.lt _ h; have := Hf3.out.size; omega
    have hGl : w3.heap.size ∉ G := fun h => by have := HB.out.lt _ h; have := Hf3.out.size; omega
    have hsz := Hf3.out.size
    have hf3 := Hf3.out
    refine (alike_calls (a := a) (b := b) (cs := w3.heap.size + 1) (cf := w3.heap.size + 1 + 1) (M := w3.heap.size) hFl hGl n _ [] x y (HA.out.fr (G := []) ?c1 (by simp)) (HB.out.fr (G := []) ?c1 (by simp)) ⟨?c2, ?c3, ?c4, ?c5, by refine ⟨?_, ?_, ?_, ?_⟩ <;> omega⟩ ?c6 Hnx.out Hny.out Hlx.out.symm Hly.out.symm (fun p hp => by cases hp)).mono ?_
    case c1 => (repeat (first | exact Fr.refl _ _ | assumption | apply Fr.drewN | apply Fr.drew | apply Fr.alloc | refine Fr.setCell ?_ (Or.inr (by simp; try omega)) _))
    case c2 => have h := Ha3.out; (repeat (first | rw [if_pos (by omega)] | rw [if_neg (by omega)] | rw [hp_drew] | rw [hp_drewN] | rw [hp_alloc_size] | rw [hp_setCell_size] | rw [hp_alloc] | rw [hp_setCell] | rw [Option.map_some] | rw [upd_cells] | rw [List.set_cons_zero] | rw [List.set_cons_succ] | rfl)); exact h
    case c3 => have h := Hb3.out; (repeat (first | rw [if_pos (by omega)] | rw [if_neg (by omega)] | rw [hp_drew] | rw [hp_drewN] | rw [hp_alloc_size] | rw [hp_setCell_size] | rw [hp_alloc] | rw [hp_setCell] | rw [Option.map_some] | rw [upd_cells] | rw [List.set_cons_zero] | rw [List.set_cons_succ] | rfl)); exact h
    case c4 => (repeat (first | rw [if_pos (by omega)] | rw [if_neg (by omega)] | rw [hp_drew] | rw [hp_drewN] | rw [hp_alloc_size] | rw [hp_setCell_size] | rw [hp_alloc] | rw [hp_setCell] | rw [Option.map_some] | rw [upd_cells] | rw [List.set_cons_zero] | rw [List.set_cons_succ] | rfl))
    case c5 => (repeat (first | rw [if_pos (by omega)] | rw [if_neg (by omega)] | rw [hp_drew] | rw [hp_drewN] | rw [hp_alloc_size] | rw [hp_setCell_size] | rw [hp_alloc] | rw [hp_setCell] | rw [Option.map_some] | rw [upd_cells] | rw [List.set_cons_zero] | rw [List.set_cons_succ] | rfl))
    case c6 =>
      refine (MapIs.made w3).of_block ?_
      (repeat (first | rw [if_pos (by omega)] | rw [if_neg (by omega)] | rw [hp_drew] | rw [hp_drewN] | rw [hp_alloc_size] | rw [hp_setCell_size] | rw [hp_alloc] | rw [hp_setCell] | rw [Option.map_some] | rw [upd_cells] | rw [List.set_cons_zero] | rw [List.set_cons_succ] | rfl))
      simp
    rintro e w4 ⟨rfl, _, _, _, hf4⟩
    have hf5 := (by (repeat (first | exact Fr.refl _ _ | assumption | apply Fr.drewN | apply Fr.drew | apply Fr.alloc | refine Fr.setCell ?_ (Or.inr (by simp; try omega)) _)) : Fr [] w _).trans hf4 fun x hx => .inr (by simp at hx; omega)
    have Hf5 := Lib.hid hf5
    clear hf4 hf5 hmm hmf hf3
    go_wp2
    go_ret
    exact ⟨by rw [Hdec.out]; rfl, Hf5.out⟩
end Go.Proofs.Ytgeomalefpjfdaa
