/- SweepCopies: what the law's function returns. -/
import Derived.Test.YtgeomalefpjfdaaYf
import Derived.Test.YtgeomalefpjfdaaYe
namespace Go.Proofs.Qs
theorem copy_facts {s : Int} {ns ms : List K4} {m : List Bool} {X : Int} (hg : GoodQ s ns) (hg' : GoodQ s ms) (hl : ns.length ≤ 200) (hl' : ms.length ≤ 200) (hm : marks s ns [X] = some m) {Q : List K4} {id : Int} (hQ : (cp s ns ms m ns.length).2 = Q) (hid : geti (cp s ns ms m ns.length).1 X = id) :
    GoodQ s Q ∧ Q.length ≤ 400 ∧ Alk s ns X s Q id ∧ (cp s ns Q m ns.length).2 = Q ∧ geti (cp s ns Q m ns.length).1 X = id := by
  have hM := marks_marked hg hm
  obtain ⟨hk, ha⟩ := hM.root X (by simp)
  have hN := cp_named hg hg' (by omega) hM.down ns.length (Nat.le_refl _)
  have hlq := (cp_len s ns ms m ns.length).2.1
  rw [hQ] at hN hlq
  obtain ⟨k1, t1⟩ := hN.tree X hk.1 hk.2 (.inr ha)
  rw [hid] at k1 t1
  have h2 := cp_there hg hN.good (by omega) hM.down (fun j h1 h2 h3 => ⟨_, hN.tree j h1 h2 (.inr h3)⟩) ns.length (Nat.le_refl _)
  have hN2 := cp_named hg hN.good (by omega) hM.down ns.length (Nat.le_refl _)
  rw [h2] at hN2
  obtain ⟨k2, t2⟩ := hN2.tree X hk.1 hk.2 (.inr ha)
  exact ⟨hN.good, by omega, ⟨hk, k1, t1.symm⟩, h2, tr_inj hN.good Q.length (by have := k2.2; omega) k2 k1 (t2.trans t1.symm)⟩
end Go.Proofs.Qs
namespace Go.Proofs.Ytgeomalefpjfdaa
open Go Go.RowKit Go.Proofs.Rg Go.Proofs.Mp Go.Proofs.Hp Go.Proofs.Qs
set_option linter.unusedVariables false
def CopyTo (s t : Int) (ns ms Q : List K4) (X id er : Int) : Prop := ∀ (w : World) (b1 b2 : Nat) (F G : List Nat), StoreAt w b1 s ns F → StoreAt w b2 t ms G →
  Calls Try.prog 20 #[.pointer (some ⟨b1, 0, none⟩), .int .i64 X, .pointer (some ⟨b2, 0, none⟩)] w fun e w' => e = .returned (.tuple #[.int .i64 id, .int .i64 er]) ∧ ∃ G', StoreAt w' b2 t Q G' ∧ Fr G w w' ∧ ∀ x ∈ G', x ∈ G ∨ w.heap.size ≤ x
def RCopyTo (w : World) (s t : Int) (ns : List K4) (v uv : Value) (Q : List K4) (X id er : Int) : Prop := ∀ (w' : World), Fr [] w w' →
  Calls Try.prog 21 #[.agg #[.int .i64 s, v], .int .i64 X, .agg #[.int .i64 t, uv]] w' fun e w'' => ∃ na nc, e = .returned (.tuple #[.agg #[.int .i64 t, .slice na Q.length nc], .int .i64 id, .int .i64 er]) ∧ Reads w'' (.slice na Q.length nc) Q.length 4 (flat Q) ∧ Fr [] w' w'' ∧ (er = 0 → ∀ g, (Value.slice na Q.length nc).ownBlock = some g → w'.heap.size ≤ g)
def AgainTo (s t : Int) (ns Q : List K4) (X id er : Int) : Prop := er ≠ 0 ∨ er = 0 ∧ Alk s ns X t Q id ∧ CopyTo s t ns Q Q X id 0
theorem copy_cases {w : World} {s t X : Int} {ns ms : List K4} {a a' : Option Addr} {c c' : Nat} (hv : Reads w (.slice a ns.length c) ns.length 4 (flat ns)) (hu : Reads w (.slice a' ms.length c') ms.length 4 (flat ms)) (hz : a' = none → c' = 0)
    (hg : ns.length ≤ 200 ∧ GoodQ s ns) (hg' : ms.length ≤ 200 ∧ GoodQ t ms) : ∃ id er Q, AgainTo s t ns Q X id er ∧ Q.length ≤ 400 ∧ CopyTo s t ns ms Q X id er ∧ RCopyTo w s t ns (.slice a ns.length c) (.slice a' ms.length c') Q X id er := by
  have hlen : ms.length + ns.length ≤ 100000 := by omega
  have hR := fun {w' : World} (hf : Fr [] w w') => RCopy_calls hg.2 hg'.2 hlen (hv.fr hf) (hu.fr hf) (fun n c h => by cases h; exact hz rfl) X
  cases hm : marks s ns [X] with
  | none =>
    refine ⟨0, 13, ms, .inl (by decide), by omega, fun w1 b1 b2 F G hA hB => (Copy_calls hA hB hlen X).mono ?_, fun w1 hf => (hR hf).mono ?_⟩
    · rintro e w' ⟨h, _⟩
      obtain ⟨he, hf⟩ := h hm
      exact ⟨he, _, hB.fr hf (by simp), hf.mono (by simp), fun x hx => .inl hx⟩
    · rintro e w'' ⟨h, _⟩
      obtain ⟨he, hf'⟩ := h hm
      exact ⟨_, _, he, (hu.fr hf).fr hf', hf', fun h => absurd h (by decide)⟩
  | some m =>
    by_cases hst : s = t
    · subst hst
      obtain ⟨Q, hQ⟩ : ∃ Q, (cp s ns ms m ns.length).2 = Q := ⟨_, rfl⟩
      obtain ⟨id, hid⟩ : ∃ id, geti (cp s ns ms m ns.length).1 X = id := ⟨_, rfl⟩
      obtain ⟨hgQ, hlQ, hal, h2, h3⟩ := copy_facts hg.2 hg'.2 hg.1 hg'.1 hm hQ hid
      refine ⟨id, 0, Q, .inr ⟨rfl, hal, fun w1 b1 b2 F G hA hB => (Copy_calls hA hB (by omega) X).mono ?_⟩, hlQ, fun w1 b1 b2 F G hA hB => (Copy_calls hA hB hlen X).mono ?_, fun w1 hf => (hR hf).mono ?_⟩
      · rintro e w' ⟨_, h⟩
        have := (h m hm).2 rfl
        rw [h2, h3] at this
        exact this
      · rintro e w' ⟨_, h⟩
        have := (h m hm).2 rfl
        rw [hQ, hid] at this
        exact this
      · rintro e w'' ⟨_, h⟩
        have := (h m hm).2 rfl
        rw [hQ, hid] at this
        obtain ⟨nv, he, ho, hf'⟩ := this
        obtain ⟨na, nc, rfl, _, _⟩ := owns_form ho
        exact ⟨na, nc, he, Reads.of_owns ho, hf', fun _ g hg => owns_ge ho hg⟩
    · refine ⟨0, 10, ms, .inl (by decide), by omega, fun w1 b1 b2 F G hA hB => (Copy_calls hA hB hlen X).mono ?_, fun w1 hf => (hR hf).mono ?_⟩
      · rintro e w' ⟨_, h⟩
        obtain ⟨he, hf⟩ := (h m hm).1 hst
        exact ⟨he, _, hB.fr hf (by simp), hf.mono (by simp), fun x hx => .inl hx⟩
      · rintro e w'' ⟨_, h⟩
        obtain ⟨he, hf'⟩ := (h m hm).1 hst
        exact ⟨_, _, he, (hu.fr hf).fr hf', hf', fun h => absurd h (by decide)⟩
set_option maxHeartbeats 16000000 in
set_option maxRecDepth 100000 in
theorem SweepCopies_calls {w : World} {s t X Y : Int} {ns ms : List K4} {a a' : Option Addr} {c c' : Nat} (hv : Reads w (.slice a ns.length c) ns.length 4 (flat ns)) (hu : Reads w (.slice a' ms.length c') ms.length 4 (flat ms)) (hz : a' = none → c' = 0) :
    Calls Try.prog 6 #[.agg #[.int .i64 s, .slice a ns.length c, .int .i64 t, .slice a' ms.length c', .int .i64 X, .int .i64 Y]] w fun e w' => e = .returned (.bool true) ∧ Fr [] w w' := by
  have Hv := Lib.hid hv
  have Hu := Lib.hid hu
  have Hz := Lib.hid hz
  clear hv hu hz
  by_cases hg : ns.length ≤ 200 ∧ GoodQ s ns
  rotate_left
  · have Hg := Lib.hid hg
    clear hg
    go_enter Try.func6, Try.ntmps6
    go_wp2_with fail
    refine (load_calls (s := s) (Hv.out.fr (by (repeat (first | exact Fr.refl _ _ | assumption | apply Fr.drewN | apply Fr.drew | apply Fr.alloc | refine Fr.setCell ?_ (Or.inr (by simp; try omega)) _))))).mono ?_
    rintro e w1 ⟨_, h1⟩
    obtain ⟨rfl, hf0⟩ := h1 Hg.out
    have hf : Fr [] w w1 := Fr.trans0 (by (repeat (first | exact Fr.refl _ _ | assumption | apply Fr.drewN | apply Fr.drew | apply Fr.alloc | refine Fr.setCell ?_ (Or.inr (by simp; try omega)) _))) hf0
    have hb := (hf0.block w.heap.size (by simp) (by simp)).trans (show _ = some (.cells #[.int .i64 s, .slice a ns.length c, .int .i64 t, .slice a' ms.length c', .int .i64 X, .int .i64 Y] 45 (0, 0)) by (repeat (first | rw [if_pos (by omega)] | rw [if_neg (by omega)] | rw [hp_drew] | rw [hp_drewN] | rw [hp_alloc_size] | rw [hp_setCell_size] | rw [hp_alloc] | rw [hp_setCell] | rw [Option.map_some] | rw [upd_cells] | rw [List.set_cons_zero] | rw [List.set_cons_succ] | rfl)))
    have c10 := heap_eq_cell hb 0
    have c11 := heap_eq_cell hb 1
    have c12 := heap_eq_cell hb 2
    have c13 := heap_eq_cell hb 3
    have c14 := heap_eq_cell hb 4
    have c15 := heap_eq_cell hb 5
    have c1l := lt_of_block hb
    have Hf1 := Lib.hid hf
    clear h1 hf hf0 hb
    go_wp2_with fail
    refine (load_calls (s := t) (ns := ms) (Hu.out.fr Hf1.out)).mono ?_
    rintro e w2 ⟨h1, h2⟩
    have hg2 : ∃ p bo, e = .returned (.tuple #[.pointer p, .bool bo]) ∧ Fr [] w1 w2 := by
      by_cases h : ms.length ≤ 200 ∧ GoodQ t ms
      · obtain ⟨b, F, he, _, hf, _⟩ := h1 h
        exact ⟨_, _, he, hf⟩
      · obtain ⟨he, hf⟩ := h2 h
        exact ⟨_, _, he, hf⟩
    obtain ⟨p, bo, rfl, hf⟩ := hg2
    have Hf2 := Lib.hid (Hf1.out.trans0 hf)
    clear h1 h2 hf c10 c11 c12 c13 c14 c15
    go_wp2_with fail
    refine (alive_calls _).mono ?_
    rintro e w3 ⟨rfl, hf⟩
    have Hf3 := Lib.hid (Hf2.out.trans0 (Fr.trans0 (by (repeat (first | exact Fr.refl _ _ | assumption | apply Fr.drewN | apply Fr.drew | apply Fr.alloc | refine Fr.setCell ?_ (Or.inr (by simp; try omega)) _)) : Fr [] w2 _) hf))
    clear hf
    go_wp2
    go_ret
    exact ⟨rfl, Hf3.out⟩
  have Hg := Lib.hid hg
  clear hg
  by_cases hg : ms.length ≤ 200 ∧ GoodQ t ms
  rotate_left
  · have Hg' := Lib.hid hg
    clear hg
    go_enter Try.func6, Try.ntmps6
    go_wp2_with fail
    refine (load_calls (s := s) (Hv.out.fr (by (repeat (first | exact Fr.refl _ _ | assumption | apply Fr.drewN | apply Fr.drew | apply Fr.alloc | refine Fr.setCell ?_ (Or.inr (by simp; try omega)) _))))).mono ?_
    rintro e w1 ⟨h1, _⟩
    obtain ⟨b, F, rfl, _, hf0, _⟩ := h1 Hg.out
    have hf : Fr [] w w1 := Fr.trans0 (by (repeat (first | exact Fr.refl _ _ | assumption | apply Fr.drewN | apply Fr.drew | apply Fr.alloc | refine Fr.setCell ?_ (Or.inr (by simp; try omega)) _))) hf0
    have hb := (hf0.block w.heap.size (by simp) (by simp)).trans (show _ = some (.cells #[.int .i64 s, .slice a ns.length c, .int .i64 t, .slice a' ms.length c', .int .i64 X, .int .i64 Y] 45 (0, 0)) by (repeat (first | rw [if_pos (by omega)] | rw [if_neg (by omega)] | rw [hp_drew] | rw [hp_drewN] | rw [hp_alloc_size] | rw [hp_setCell_size] | rw [hp_alloc] | rw [hp_setCell] | rw [Option.map_some] | rw [upd_cells] | rw [List.set_cons_zero] | rw [List.set_cons_succ] | rfl)))
    have c10 := heap_eq_cell hb 0
    have c11 := heap_eq_cell hb 1
    have c12 := heap_eq_cell hb 2
    have c13 := heap_eq_cell hb 3
    have c14 := heap_eq_cell hb 4
    have c15 := heap_eq_cell hb 5
    have c1l := lt_of_block hb
    have Hf1 := Lib.hid hf
    clear h1 hf hf0 hb
    go_wp2_with fail
    refine (load_calls (s := t) (ns := ms) (Hu.out.fr Hf1.out)).mono ?_
    rintro e w2 ⟨_, h2⟩
    obtain ⟨rfl, hf⟩ := h2 Hg'.out
    have Hf2 := Lib.hid (Hf1.out.trans0 hf)
    clear h2 hf c10 c11 c12 c13 c14 c15
    go_wp2_with fail
    refine (alive_calls _).mono ?_
    rintro e w3 ⟨rfl, hf⟩
    have Hf3 := Lib.hid (Hf2.out.trans0 (Fr.trans0 (by (repeat (first | exact Fr.refl _ _ | assumption | apply Fr.drewN | apply Fr.drew | apply Fr.alloc | refine Fr.setCell ?_ (Or.inr (by simp; try omega)) _)) : Fr [] w2 _) hf))
    clear hf
    go_wp2
    go_ret
    exact ⟨rfl, Hf3.out⟩
  have Hg' := Lib.hid hg
  clear hg
  obtain ⟨id, er, Q, hagain, hlQ, hcp, hrc⟩ := copy_cases (X := X) Hv.out Hu.out Hz.out Hg.out Hg'.out
  have Hagain := Lib.hid hagain
  have HlQ := Lib.hid hlQ
  have Hcp := Lib.hid hcp
  have Hrc := Lib.hid hrc
  clear hagain hlQ hcp hrc
  go_enter Try.func6, Try.ntmps6
  go_wp2_with fail
  refine (load_calls (s := s) (Hv.out.fr (by (repeat (first | exact Fr.refl _ _ | assumption | apply Fr.drewN | apply Fr.drew | apply Fr.alloc | refine Fr.setCell ?_ (Or.inr (by simp; try omega)) _))))).mono ?_
  rintro e w1 ⟨h1, _⟩
  obtain ⟨b1, F1, rfl, hS, hf0, hF⟩ := h1 Hg.out
  have hf : Fr [] w w1 := Fr.trans0 (by (repeat (first | exact Fr.refl _ _ | assumption | apply Fr.drewN | apply Fr.drew | apply Fr.alloc | refine Fr.setCell ?_ (Or.inr (by simp; try omega)) _))) hf0
  have hb := (hf0.block w.heap.size (by simp) (by simp)).trans (show _ = some (.cells #[.int .i64 s, .slice a ns.length c, .int .i64 t, .slice a' ms.length c', .int .i64 X, .int .i64 Y] 45 (0, 0)) by (repeat (first | rw [if_pos (by omega)] | rw [if_neg (by omega)] | rw [hp_drew] | rw [hp_drewN] | rw [hp_alloc_size] | rw [hp_setCell_size] | rw [hp_alloc] | rw [hp_setCell] | rw [Option.map_some] | rw [upd_cells] | rw [List.set_cons_zero] | rw [List.set_cons_succ] | rfl)))
  have c10 := heap_eq_cell hb 0
  have c11 := heap_eq_cell hb 1
  have c12 := heap_eq_cell hb 2
  have c13 := heap_eq_cell hb 3
  have c14 := heap_eq_cell hb 4
  have c15 := heap_eq_cell hb 5
  have c1l := lt_of_block hb
  have Hb1 := Lib.hid hb
  have Hf1 := Lib.hid hf
  have HA1 := Lib.hid hS
  have hFn : ∀ x ∈ F1, w.heap.size + 1 ≤ x := fun x hx => by have := hF x hx; simpa using this
  have HF1 := Lib.hid hFn
  clear h1 hf hf0 hb hS hF hFn
  go_wp2_with fail
  refine (load_calls (s := t) (ns := ms) (Hu.out.fr Hf1.out)).mono ?_
  rintro e w2 ⟨h1, _⟩
  obtain ⟨b2, F2, rfl, hS, hf, hF⟩ := h1 Hg'.out
  have hb := (hf.block w.heap.size (lt_of_block Hb1.out) (by simp)).trans Hb1.out
  have c20 := heap_eq_cell hb 0
  have c21 := heap_eq_cell hb 1
  have c22 := heap_eq_cell hb 2
  have c23 := heap_eq_cell hb 3
  have c24 := heap_eq_cell hb 4
  have c25 := heap_eq_cell hb 5
  have c2l := lt_of_block hb
  have Hb2 := Lib.hid hb
  have Hf2 := Lib.hid (Hf1.out.trans0 hf)
  have HA2 := Lib.hid (HA1.out.fr hf (by simp))
  have HB2 := Lib.hid hS
  have HF2 := Lib.hid hF
  have h12 : w1.heap.size ≤ w2.heap.size := hf.size
  clear h1 hf hb hS hF c10 c11 c12 c13 c14 c15
  go_wp2_with fail
  refine (Hcp.out _ _ _ _ _ HA2.out HB2.out).mono ?_
  rintro e w3 ⟨rfl, G, hG, hf, hGn⟩
  have hb := (hf.block w.heap.size (lt_of_block Hb2.out) (fun h => by have := HF2.out _ h; have := lt_of_block Hb1.out; omega)).trans Hb2.out
  have c30 := heap_eq_cell hb 0
  have c31 := heap_eq_cell hb 1
  have c32 := heap_eq_cell hb 2
  have c33 := heap_eq_cell hb 3
  have c34 := heap_eq_cell hb 4
  have c35 := heap_eq_cell hb 5
  have c3l := lt_of_block hb
  have Hb3 := Lib.hid hb
  have HA3 := Lib.hid (HA2.out.fr hf (fun x hx h => by have := HF2.out x h; have := HA1.out.lt x hx; omega))
  have HB3 := Lib.hid hG
  have Hf3 := Lib.hid (Hf2.out.trans hf fun x hx => .inr (by have := HF2.out x hx; have := Hf1.out.size; omega))
  have hGn' : ∀ x ∈ G, w1.heap.size ≤ x := fun x hx => by
    rcases hGn x hx with h | h
    · exact HF2.out x h
    · omega
  have h23 : w2.heap.size ≤ w3.heap.size := hf.size
  have HGn := Lib.hid hGn'
  clear hf hb hG hGn hGn' c20 c21 c22 c23 c24 c25
  go_wp2_with fail
  refine (Hrc.out _ Hf3.out).mono ?_
  rintro e w4 ⟨na, nc, rfl, hr, hf, hnew⟩
  have hb := (hf.block w.heap.size (lt_of_block Hb3.out) (by simp)).trans Hb3.out
  have c40 := heap_eq_cell hb 0
  have c41 := heap_eq_cell hb 1
  have c42 := heap_eq_cell hb 2
  have c43 := heap_eq_cell hb 3
  have c44 := heap_eq_cell hb 4
  have c45 := heap_eq_cell hb 5
  have c4l := lt_of_block hb
  have Hb4 := Lib.hid hb
  have Hf4 := Lib.hid (Hf3.out.trans0 hf)
  have HA4 := Lib.hid (HA3.out.fr hf (by simp))
  have HB4 := Lib.hid (HB3.out.fr hf (by simp))
  have Hr4 := Lib.hid hr
  have Hnew := Lib.hid hnew
  have h34 : w3.heap.size ≤ w4.heap.size := hf.size
  clear hf hb hr hnew c30 c31 c32 c33 c34 c35
  have hii : (id != id) = false := by simp
  have hee : (er != er) = false := by simp
  go_wp2
  refine wp_region_segs [([0, 1, 2, 3, 4, 5, 6, 7, 8, 9, 11, 10], [11]), ([12, 13, 14, 15, 16, 18, 19, 17], [19]), ([20, 21, 22], [])] (by kernel_rfl) (by kernel_rfl) ?_
  (simp only [wpSegs, pick, Array.getD_eq_getD_getElem?, List.getElem?_toArray, List.getElem?_cons_succ, List.getElem?_cons_zero, Option.getD_some])
  go_wp2_with fail
  refine (Data_calls (HB4.out.fr (by (repeat (first | exact Fr.refl _ _ | assumption | apply Fr.drewN | apply Fr.drew | apply Fr.alloc | refine Fr.setCell ?_ (Or.inr (by simp; try omega)) _)) : Fr [] w4 _) (by simp))).mono ?_
  rintro e w5 ⟨dv, rfl, ho, hf0⟩
  obtain ⟨da, dc, rfl, _, _⟩ := owns_form ho
  have hf : Fr [] w4 w5 := Fr.trans0 (by (repeat (first | exact Fr.refl _ _ | assumption | apply Fr.drewN | apply Fr.drew | apply Fr.alloc | refine Fr.setCell ?_ (Or.inr (by simp; try omega)) _))) hf0
  have Hq5 := Lib.hid ((hf0.block w4.heap.size (by simp) (by simp)).trans (show _ = some (.cells #[.int .i64 t, .slice na Q.length nc] 24 (0, 0)) by (repeat (first | rw [if_pos (by omega)] | rw [if_neg (by omega)] | rw [hp_drew] | rw [hp_drewN] | rw [hp_alloc_size] | rw [hp_setCell_size] | rw [hp_alloc] | rw [hp_setCell] | rw [Option.map_some] | rw [upd_cells] | rw [List.set_cons_zero] | rw [List.set_cons_succ] | rfl))))
  have hb := (hf.block w.heap.size (lt_of_block Hb4.out) (by simp)).trans Hb4.out
  have c50 := heap_eq_cell hb 0
  have c51 := heap_eq_cell hb 1
  have c52 := heap_eq_cell hb 2
  have c53 := heap_eq_cell hb 3
  have c54 := heap_eq_cell hb 4
  have c55 := heap_eq_cell hb 5
  have c5l := lt_of_block hb
  have Hb5 := Lib.hid hb
  have Hf5 := Lib.hid (Hf4.out.trans0 hf)
  have HA5 := Lib.hid (HA4.out.fr hf (by simp))
  have HB5 := Lib.hid (HB4.out.fr hf (by simp))
  have Hr5 := Lib.hid (Hr4.out.fr hf)
  have Hd5 := Lib.hid (Reads.of_owns ho)
  clear hf hf0 ho hb c40 c41 c42 c43 c44 c45
  go_wp2
  refine Mid.intro ⟨⟨again_row (T := 24) (cs := [.int .i64 t, .slice na Q.length nc]) rfl rfl rfl Try.underlying24 rfl (by kernel_rfl) (range_blk Hq5.out) rfl, trivial⟩, ?_⟩
  go_wp2_with fail
  refine (Same_ref (n1 := Q) (n2 := Q) (by have := HlQ.out; omega) Hd5.out Hr5.out).mono ?_
  rintro e w6 ⟨rfl, hs⟩
  rw [show sameQ t t Q Q = true by simp [sameQ]]
  have hf := same_fr hs
  have hb := (hf.block w.heap.size (lt_of_block Hb5.out) (by simp)).trans Hb5.out
  have c60 := heap_eq_cell hb 0
  have c61 := heap_eq_cell hb 1
  have c62 := heap_eq_cell hb 2
  have c63 := heap_eq_cell hb 3
  have c64 := heap_eq_cell hb 4
  have c65 := heap_eq_cell hb 5
  have c6l := lt_of_block hb
  have Hb6 := Lib.hid hb
  have Hf6 := Lib.hid (Hf5.out.trans0 hf)
  have Hq6 := Lib.hid ((hf.block w4.heap.size (lt_of_block Hq5.out) (by simp)).trans Hq5.out)
  have HA6 := Lib.hid (HA5.out.fr hf (by simp))
  have HB6 := Lib.hid (HB5.out.fr hf (by simp))
  have Hr6 := Lib.hid (Hr5.out.fr hf)
  clear hf hs hb c50 c51 c52 c53 c54 c55
  go_wp2_with fail
  refine (Data_calls HA6.out).mono ?_
  rintro e w7 ⟨dv, rfl, ho, hf⟩
  obtain ⟨ea, ec, rfl, _, _⟩ := owns_form ho
  have hb := (hf.block w.heap.size (lt_of_block Hb6.out) (by simp)).trans Hb6.out
  have c70 := heap_eq_cell hb 0
  have c71 := heap_eq_cell hb 1
  have c72 := heap_eq_cell hb 2
  have c73 := heap_eq_cell hb 3
  have c74 := heap_eq_cell hb 4
  have c75 := heap_eq_cell hb 5
  have c7l := lt_of_block hb
  have Hb7 := Lib.hid hb
  have Hf7 := Lib.hid (Hf6.out.trans0 hf)
  have Hq7 := Lib.hid ((hf.block w4.heap.size (lt_of_block Hq6.out) (by simp)).trans Hq6.out)
  have HA7 := Lib.hid (HA6.out.fr hf (by simp))
  have HB7 := Lib.hid (HB6.out.fr hf (by simp))
  have Hr7 := Lib.hid (Hr6.out.fr hf)
  have Hd7 := Lib.hid (Reads.of_owns ho)
  clear hf ho hb c60 c61 c62 c63 c64 c65
  go_wp2
  refine Mid.intro ⟨⟨again_row (T := 24) (cs := [.int .i64 s, .slice a ns.length c]) rfl rfl rfl Try.underlying24 rfl (by kernel_rfl) (range_two Hb7.out) rfl, trivial⟩, ?_⟩
  go_wp2_with fail
  refine (Same_ref (n1 := ns) (n2 := ns) (by have := Hg.out.1; omega) Hd7.out (Hv.out.fr Hf7.out)).mono ?_
  rintro e w8 ⟨rfl, hs⟩
  rw [show sameQ s s ns ns = true by simp [sameQ]]
  have hf := same_fr hs
  have hb := (hf.block w.heap.size (lt_of_block Hb7.out) (by simp)).trans Hb7.out
  have c80 := heap_eq_cell hb 0
  have c81 := heap_eq_cell hb 1
  have c82 := heap_eq_cell hb 2
  have c83 := heap_eq_cell hb 3
  have c84 := heap_eq_cell hb 4
  have c85 := heap_eq_cell hb 5
  have c8l := lt_of_block hb
  have Hb8 := Lib.hid hb
  have Hf8 := Lib.hid (Hf7.out.trans0 hf)
  have Hq8 := Lib.hid ((hf.block w4.heap.size (lt_of_block Hq7.out) (by simp)).trans Hq7.out)
  have HA8 := Lib.hid (HA7.out.fr hf (by simp))
  have HB8 := Lib.hid (HB7.out.fr hf (by simp))
  have Hr8 := Lib.hid (Hr7.out.fr hf)
  have hsz48 : w4.heap.size < w8.heap.size := lt_of_block Hq8.out
  clear hf hs hb c70 c71 c72 c73 c74 c75
  rcases Hagain.out with hne | ⟨rfl, hal, hcp2⟩
  · have hne0 : (er != 0) = true := by simpa using hne
    clear hne
    go_wp2
    refine Mid.intro ⟨trivial, Strict.intro rfl ?_⟩
    go_wp2_with fail
    refine (alive_calls _).mono ?_
    rintro e w9 ⟨rfl, hf⟩
    have Hf9 := Lib.hid (Hf8.out.trans0 (Fr.trans0 (by (repeat (first | exact Fr.refl _ _ | assumption | apply Fr.drewN | apply Fr.drew | apply Fr.alloc | refine Fr.setCell ?_ (Or.inr (by simp; try omega)) _)) : Fr [] w8 _) hf))
    clear hf
    go_wp2
    go_ret
    exact ⟨rfl, Hf9.out⟩
  · have Hal := Lib.hid hal
    have Hcp2 := Lib.hid hcp2
    clear hal hcp2
    go_wp2
    refine Mid.intro ⟨trivial, Strict.intro rfl ?_⟩
    go_wp2_with fail
    refine (Hcp2.out _ _ _ _ _ HA8.out HB8.out).mono ?_
    rintro e w9 ⟨rfl, G2, hG, hf, _⟩
    have hb := (hf.block w.heap.size (lt_of_block Hb8.out) (fun h => by have := HGn.out _ h; have := lt_of_block Hb1.out; omega)).trans Hb8.out
    have c90 := heap_eq_cell hb 0
    have c91 := heap_eq_cell hb 1
    have c92 := heap_eq_cell hb 2
    have c93 := heap_eq_cell hb 3
    have c94 := heap_eq_cell hb 4
    have c95 := heap_eq_cell hb 5
    have c9l := lt_of_block hb
    have Hb9 := Lib.hid hb
    have hqG : w4.heap.size ∉ G := fun h => by have := HB3.out.lt _ h; omega
    have hq := (hf.block w4.heap.size hsz48 hqG).trans Hq8.out
    have Hq9 := Lib.hid hq
    have HA9 := Lib.hid (HA8.out.fr hf (fun x hx h => by have := HGn.out x h; have := HA1.out.lt x hx; omega))
    have HB9 := Lib.hid hG
    have Hr9 := Lib.hid (Hr8.out.keep fun x hx hl => hf.block x hl fun h => by have := HB3.out.lt x h; have := Hnew.out (by first | rfl | trivial) x hx; omega)
    have Hf9 := Lib.hid (Hf8.out.trans hf fun x hx => .inr (by have := HGn.out x hx; have := Hf1.out.size; omega))
    clear hf hb hG hq c80 c81 c82 c83 c84 c85 hqG
    have hie : (id == id) = true := by simp
    go_wp2
    refine wp_region_segs [([0, 1, 2, 3, 4, 5, 6, 7, 8, 9, 10, 11, 12, 13, 14, 15, 16, 18, 17], [18]), ([19, 20, 21, 22, 23, 24], [])] (by kernel_rfl) (by kernel_rfl) ?_
    (simp only [wpSegs, pick, Array.getD_eq_getD_getElem?, List.getElem?_toArray, List.getElem?_cons_succ, List.getElem?_cons_zero, Option.getD_some])
    go_wp2_with fail
    refine (Alike_calls (HA9.out.fr (by (repeat (first | exact Fr.refl _ _ | assumption | apply Fr.drewN | apply Fr.drew | apply Fr.alloc | refine Fr.setCell ?_ (Or.inr (by simp; try omega)) _)) : Fr [] w9 _) (by simp)) (HB9.out.fr (by (repeat (first | exact Fr.refl _ _ | assumption | apply Fr.drewN | apply Fr.drew | apply Fr.alloc | refine Fr.setCell ?_ (Or.inr (by simp; try omega)) _)) : Fr [] w9 _) (by simp)) X id).mono ?_
    rintro e w10 ⟨rfl, hf0⟩
    rw [decide_eq_true Hal.out]
    have hf : Fr [] w9 w10 := Fr.trans0 (by (repeat (first | exact Fr.refl _ _ | assumption | apply Fr.drewN | apply Fr.drew | apply Fr.alloc | refine Fr.setCell ?_ (Or.inr (by simp; try omega)) _))) hf0
    have hq := (hf.block w4.heap.size (lt_of_block Hq9.out) (by simp)).trans Hq9.out
    have q0 := heap_eq_cell hq 0
    have q1 := heap_eq_cell hq 1
    have ql := lt_of_block hq
    have Hq10 := Lib.hid hq
    have HB10 := Lib.hid (HB9.out.fr hf (by simp))
    have Hr10 := Lib.hid (Hr9.out.fr hf)
    have Hf10 := Lib.hid (Hf9.out.trans0 hf)
    clear hf hf0 hq c90 c91 c92 c93 c94 c95
    go_wp2_with fail
    refine (Data_calls HB10.out).mono ?_
    rintro e w11 ⟨dv, rfl, ho, hf⟩
    obtain ⟨ua, uc, rfl, _, _⟩ := owns_form ho
    have Hq11 := Lib.hid ((hf.block w4.heap.size ql (by simp)).trans Hq10.out)
    have Hr11 := Lib.hid (Hr10.out.fr hf)
    have Hd11 := Lib.hid (Reads.of_owns ho)
    have Hf11 := Lib.hid (Hf10.out.trans0 hf)
    clear hf ho q0 q1 ql
    go_wp2
    refine Mid.intro ⟨⟨again_row (T := 24) (cs := [.int .i64 t, .slice na Q.length nc]) rfl rfl rfl Try.underlying24 rfl (by kernel_rfl) (range_blk Hq11.out) rfl, trivial⟩, ?_⟩
    go_wp2_with fail
    refine (Same_ref (n1 := Q) (n2 := Q) (by have := HlQ.out; omega) Hd11.out Hr11.out).mono ?_
    rintro e w12 ⟨rfl, hs⟩
    rw [show sameQ t t Q Q = true by simp [sameQ]]
    have Hf12 := Lib.hid (Hf11.out.trans0 (same_fr hs))
    clear hs
    go_wp2_with fail
    refine (alive_calls _).mono ?_
    rintro e w13 ⟨rfl, hf⟩
    have Hf13 := Lib.hid (Hf12.out.trans0 (Fr.trans0 (by (repeat (first | exact Fr.refl _ _ | assumption | apply Fr.drewN | apply Fr.drew | apply Fr.alloc | refine Fr.setCell ?_ (Or.inr (by simp; try omega)) _)) : Fr [] w12 _) hf))
    clear hf
    go_wp2
    refine Mid.intro ⟨trivial, Strict.intro rfl ?_⟩
    go_wp2
    go_ret
    exact ⟨rfl, Hf13.out⟩
end Go.Proofs.Ytgeomalefpjfdaa
