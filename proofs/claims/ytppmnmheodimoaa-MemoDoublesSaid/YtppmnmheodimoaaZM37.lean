/- Own texts of this claim, part 38: no condition. -/
import Derived.Test.YtppmnmheodimoaaZM36
section
/- The reference's step. -/
namespace Go.Proofs.Ytppmnmheodimoaa
open Go Go.RowKit Go.Proofs.Rg Go.Proofs.Mp Go.Proofs.Hp Go.Proofs.Qs Go.Proofs.Ev
set_option linter.unusedVariables false
set_option linter.unusedSimpArgs false
theorem Has.updE {W w : World} {P : Res} {Ps : List Res} {Pr : Program} {f : FuncId} {args : Array Value} {Q : Ending → Res → Prop} (h : Has W w (P :: Ps))
    (hc : ∀ F, P.holds w F → Calls Pr f args w fun e w' => ∃ P' : Res, Q e P' ∧ ∃ F', P'.holds w' F' ∧ Fr F w w' ∧ ∀ x ∈ F', x ∈ F ∨ w.heap.size ≤ x) : Calls Pr f args w fun e w' => ∃ P' : Res, Q e P' ∧ Has W w' (P' :: Ps) := by
  obtain ⟨F, ⟨F1, F2, h1, h2, h3, rfl⟩, hf, hge⟩ := h
  refine (hc F1 h1).mono ?_
  rintro e w' ⟨P', hR, F', hP, hf', hs⟩
  refine ⟨P', hR, F' ++ F2, ⟨F', F2, hP, h2.keep fun x hx => hf'.block x (h2.lt x hx) fun hx' => h3 x hx' hx, fun x hx hx' => ?_, rfl⟩, hf.trans hf' fun x hx => .inr (hge x (by simp [hx])), fun x hx => ?_⟩
  · rcases hs x hx with h9 | h9
    · exact h3 x h9 hx'
    · have := h2.lt x hx'; omega
  · rcases List.mem_append.1 hx with h9 | h9
    · rcases hs x h9 with h8 | h8
      · exact hge x (by simp [h8])
      · have := hf.size; omega
    · exact hge x (by simp [h9])
theorem refAt_one {w : World} {b : Nat} {s : Int} {ns ms : List K4} {F G : List Nat} (h : RefAt w b s ns F) (k : RefAt w b s ms G) : F = G := by
  obtain ⟨_, nv, hI, rfl⟩ := h
  obtain ⟨_, nw, kI, rfl⟩ := k
  have e := hI.blk.symm.trans kI.blk
  simp at e
  rw [e]
/-- a pair is appended to a nil slice -/
theorem append_pair {ops : Array Oper} {rest : List Oper} {o : Oper} {a : Act} {W : World} {Q : Exit → Act → World → Prop} (hgd : o.guard = none) {s x : Operand}
    (ho : o.op = .call { callee := .builtin .append, args := #[s, x], argTypes := #[96, 96] }) {y z : Int} {nb c : Nat} (hs : a.eval s = .slice none 0 0) (hx : a.eval x = .slice (some ⟨nb, 0, none⟩) 1 c)
    (hnb : W.heap[nb]? = some (.cells #[.int .i64 y, .int .i64 z] 74 (0, 0)))
    (h : ∀ g cap w', Fr [] W w' → wpList Try.prog ops Q rest (a.put o.dst (.slice (some ⟨g, 0, none⟩) 1 cap)) w') : wpList Try.prog ops Q (o :: rest) a W := by
  refine append_new hgd ho (base := 0) (size := 2) (bytes := 16) (z := .agg #[.int .i64 0, .int .i64 0]) (e := 74) (n := 0) (xs := []) Try.underlying96 (by kernel_rfl) rfl (by decide) hs (World.ownsRow_nil _ _ _ _) hx hnb rfl (by intro u hu; simp at hu; rcases hu with rfl | rfl <;> rfl) (by decide) (by decide) (Nat.zero_le _) ?_
  intro g cap w' h1 h2 h3 h4 h5
  exact h _ _ _ h3
/-- what the reference's step leaves -/
def RStepEnd (W : World) (r : Rule) (hv nv : Value) (mb sb : Nat) (ns : List K4) (id k : Int) (Ps : List Res) (e : Ending) (w' : World) : Prop :=
  (¬ Kn r.S ns id ∧ e = .returned (.tuple #[.int .i64 0, .int .i64 13]) ∧ Has W w' (rmemoL r hv nv mb sb ns Ps)) ∨
  (∃ n t, Is r.S ns n id t ∧ (k < 0 ∨ mostOf r n < k) ∧ e = .returned (.tuple #[.int .i64 0, .int .i64 18]) ∧ Has W w' (rmemoL r hv nv mb sb ns Ps)) ∨
  (∃ n t, ∃ k' : Nat, Is r.S ns n id t ∧ k = k' ∧ lostOf (radius r.hood) ≤ n ∧ k' ≤ n - lostOf (radius r.hood) ∧ ∃ res ns', e = .returned (.tuple #[.int .i64 res, .int .i64 0]) ∧ Has W w' (refR sb r.S ns' :: Ps) ∧ ns <+: ns' ∧ Is r.S ns' (n - 1) res (stp (gen r) n k' t))
set_option maxHeartbeats 8000000 in
set_option maxRecDepth 100000 in
theorem RMStep_calls {W w : World} {r : Rule} {ha na : Option Addr} {hc nc : Nat} {mb sb : Nat} {L : List Tr} {ns : List K4} {Ps : List Res} (hR : rightR r = true) (hru : RuleAt w (.slice ha r.hood.length hc) (.slice na r.nodes.length nc) r)
    (h : Has W w (rmemoL r (.slice ha r.hood.length hc) (.slice na r.nodes.length nc) mb sb ns Ps)) (hroom : room r.S ns L) (hdum : dummy ∈ L) (id k : Int)
    (hL : ∀ (n k' : Nat) (t : Tr), Is r.S ns n id t → k = k' → lostOf (radius r.hood) ≤ n → k' ≤ n - lostOf (radius r.hood) → n ≤ 6 ∧ ∀ u ∈ subs (stp (gen r) n k' t), u ∈ L) :
    Calls Try.prog 21 #[.pointer (some ⟨mb, 0, none⟩), .int .i64 id, .int .i64 k] w (RStepEnd W r (.slice ha r.hood.length hc) (.slice na r.nodes.length nc) mb sb ns id k Ps) := by
  obtain ⟨F0, hS⟩ := h.head
  have hg := hS.1
  have hlh : r.hood.length ≤ 1000000 := by have := right_hlen hR; omega
  obtain ⟨m0, m1, m2, m3, _, ml⟩ := rmemo_cells h
  have H := Lib.hid h
  have Hru := Lib.hid hru
  by_cases hk : Kn r.S ns id
  · have hi : Is r.S ns (tr r.S ns id).ht id (tr r.S ns id) := Is.of_lvl hg (lvl_ht hg ns.length (by have := hk.2; omega) hk)
    generalize (tr r.S ns id).ht = n at hi
    generalize tr r.S ns id = t at hi
    have HLV := Lib.hid (RLevelIs hS hi)
    have HI := Lib.hid hi
    have hne : ((n : Int) < 0) = False := by simp
    have hlt : decide ((n : Int) < 0) = false := by simp
    clear h hru hS
    by_cases h0 : k < 0
    · clear hroom hL hi
      go_enter Try.func21, Try.ntmps21
      go_wp2_with fail
      refine HLV.out.mono ?_
      rintro e w5 ⟨rfl, hf⟩
      have H5 := Lib.hid (H.out.step (Fr.trans0 (by (repeat (first | exact Fr.refl _ _ | assumption | apply Fr.drewN | apply Fr.drew | apply Fr.alloc | refine Fr.setCell ?_ (Or.inr (by simp; try omega)) _))) hf))
      have Hru5 := Lib.hid (Hru.out.fr (Fr.trans0 (by (repeat (first | exact Fr.refl _ _ | assumption | apply Fr.drewN | apply Fr.drew | apply Fr.alloc | refine Fr.setCell ?_ (Or.inr (by simp; try omega)) _))) hf))
      clear hf m3 ml
      go_wp2
      all_goals
        go_ret2
        exact .inr (.inl ⟨n, t, HI.out, .inl h0, rfl, H5.out⟩)
    · obtain ⟨k', rfl⟩ : ∃ k' : Nat, k = k' := ⟨k.toNat, by omega⟩
      have hk0 : ((k' : Int) < 0) = False := by simp
      have hk0' : decide ((k' : Int) < 0) = false := by simp
      have hl := lost_le (radius_le r.hood).1 (radius_le r.hood).2
      by_cases hm : mostOf r n < k'
      · have hmd : decide ((k' : Int) > mostOf r n) = true := by simp; omega
        have HM2 := Lib.hid hm
        clear hroom hL hi hm hl
        go_enter Try.func21, Try.ntmps21
        go_wp2_with fail
        refine HLV.out.mono ?_
        rintro e w5 ⟨rfl, hf⟩
        have H5 := Lib.hid (H.out.step (Fr.trans0 (by (repeat (first | exact Fr.refl _ _ | assumption | apply Fr.drewN | apply Fr.drew | apply Fr.alloc | refine Fr.setCell ?_ (Or.inr (by simp; try omega)) _))) hf))
        have Hru5 := Lib.hid (Hru.out.fr (Fr.trans0 (by (repeat (first | exact Fr.refl _ _ | assumption | apply Fr.drewN | apply Fr.drew | apply Fr.alloc | refine Fr.setCell ?_ (Or.inr (by simp; try omega)) _))) hf))
        clear hf m3 ml
        go_wp2_with fail
        refine (RMMost_calls (Hru5.out.fr (by (repeat (first | exact Fr.refl _ _ | assumption | apply Fr.drewN | apply Fr.drew | apply Fr.alloc | refine Fr.setCell ?_ (Or.inr (by simp; try omega)) _)))) hlh (H5.out.step (by (repeat (first | exact Fr.refl _ _ | assumption | apply Fr.drewN | apply Fr.drew | apply Fr.alloc | refine Fr.setCell ?_ (Or.inr (by simp; try omega)) _)))) n).mono ?_
        rintro e w6 ⟨rfl, hf⟩
        have H6 := Lib.hid (H5.out.step (Fr.trans0 (by (repeat (first | exact Fr.refl _ _ | assumption | apply Fr.drewN | apply Fr.drew | apply Fr.alloc | refine Fr.setCell ?_ (Or.inr (by simp; try omega)) _))) hf))
        have Hru6 := Lib.hid (Hru5.out.fr (Fr.trans0 (by (repeat (first | exact Fr.refl _ _ | assumption | apply Fr.drewN | apply Fr.drew | apply Fr.alloc | refine Fr.setCell ?_ (Or.inr (by simp; try omega)) _))) hf))
        clear hf H5 Hru5
        go_wp2
        all_goals
          go_ret2
          exact .inr (.inl ⟨n, t, HI.out, .inr HM2.out, rfl, H6.out.step (by (repeat (first | exact Fr.refl _ _ | assumption | apply Fr.drewN | apply Fr.drew | apply Fr.alloc | refine Fr.setCell ?_ (Or.inr (by simp; try omega)) _)))⟩)
      · have hmd : decide ((k' : Int) > mostOf r n) = false := by simp; omega
        have hmk : lostOf (radius r.hood) ≤ n ∧ k' ≤ n - lostOf (radius r.hood) := by
          unfold mostOf at hm
          split at hm <;> omega
        obtain ⟨hn, hL⟩ := hL n k' t hi rfl hmk.1 hmk.2
        have HL := Lib.hid hL
        have Hroom := Lib.hid hroom
        have HMK := Lib.hid hmk
        have hmar := margin (radius_le r.hood).1 (radius_le r.hood).2 hmk.1 hmk.2
        have HN2 := Lib.hid (show 2 ≤ n ∧ n ≤ 6 by omega)
        clear hroom hL hi hm hl hmk
        go_enter Try.func21, Try.ntmps21
        go_wp2_with fail
        refine HLV.out.mono ?_
        rintro e w5 ⟨rfl, hf⟩
        have H5 := Lib.hid (H.out.step (Fr.trans0 (by (repeat (first | exact Fr.refl _ _ | assumption | apply Fr.drewN | apply Fr.drew | apply Fr.alloc | refine Fr.setCell ?_ (Or.inr (by simp; try omega)) _))) hf))
        have Hru5 := Lib.hid (Hru.out.fr (Fr.trans0 (by (repeat (first | exact Fr.refl _ _ | assumption | apply Fr.drewN | apply Fr.drew | apply Fr.alloc | refine Fr.setCell ?_ (Or.inr (by simp; try omega)) _))) hf))
        clear hf m3 ml
        go_wp2_with fail
        refine (RMMost_calls (Hru5.out.fr (by (repeat (first | exact Fr.refl _ _ | assumption | apply Fr.drewN | apply Fr.drew | apply Fr.alloc | refine Fr.setCell ?_ (Or.inr (by simp; try omega)) _)))) hlh (H5.out.step (by (repeat (first | exact Fr.refl _ _ | assumption | apply Fr.drewN | apply Fr.drew | apply Fr.alloc | refine Fr.setCell ?_ (Or.inr (by simp; try omega)) _)))) n).mono ?_
        rintro e w6 ⟨rfl, hf⟩
        have H6 := Lib.hid (H5.out.step (Fr.trans0 (by (repeat (first | exact Fr.refl _ _ | assumption | apply Fr.drewN | apply Fr.drew | apply Fr.alloc | refine Fr.setCell ?_ (Or.inr (by simp; try omega)) _))) hf))
        have Hru6 := Lib.hid (Hru5.out.fr (Fr.trans0 (by (repeat (first | exact Fr.refl _ _ | assumption | apply Fr.drewN | apply Fr.drew | apply Fr.alloc | refine Fr.setCell ?_ (Or.inr (by simp; try omega)) _))) hf))
        clear hf H5 Hru5
        obtain ⟨F6, hS6⟩ := H6.out.head
        obtain ⟨m0, m1, m2, m3, _, ml⟩ := rmemo_cells H6.out
        have HF6 := Lib.hid hS6
        clear hS6
        obtain ⟨R, hRn⟩ : ∃ R : Nat, radius r.hood = R := ⟨(radius r.hood).toNat, by have := (radius_le r.hood).1; omega⟩
        have HRad := Lib.hid hRn
        obtain ⟨m, hm⟩ : ∃ m, 2 ^ n = m := ⟨_, rfl⟩
        obtain ⟨q, hq⟩ : ∃ q, 2 ^ (n - 2) = q := ⟨_, rfl⟩
        obtain ⟨K, hK⟩ : ∃ K, 2 ^ k' = K := ⟨_, rfl⟩
        have hR2 : R ≤ 2 := by have := (radius_le r.hood).2; omega
        have hm4 : m = 4 * q := by
          obtain ⟨n2, hn2⟩ : ∃ n2, n = n2 + 2 := ⟨n - 2, by have := HN2.out; omega⟩
          rw [← hm, ← hq, hn2, show n2 + 2 - 2 = n2 by omega, Nat.pow_succ, Nat.pow_succ]; omega
        have hq1 : 1 ≤ q ∧ q ≤ 16 := by
          rw [← hq]
          exact ⟨Nat.one_le_two_pow, Nat.pow_le_pow_right (by omega) (by have := HN2.out; omega : n - 2 ≤ 4)⟩
        have hKq : R * K ≤ q := by
          rw [hRn] at hmar
          have e1 : p2 k' = (K : Int) := by rw [← hK]; simp [p2]
          have e2 : p2 (n - 2) = (q : Int) := by rw [← hq]; simp [p2]
          rw [e1, e2] at hmar
          exact_mod_cast hmar
        have HM := Lib.hid (And.intro hm (And.intro hq hK))
        have HM4 := Lib.hid hm4
        have HKQ := Lib.hid hKq
        have hC := (cells_all (s := r.S) (ns := ns) (b := sb) n (by have := HN2.out; omega))
        unfold CellsAt at hC
        rw [hm] at hC
        have HC := Lib.hid hC
        obtain ⟨hh, hhh⟩ : ∃ hh, hh = 2 * q := ⟨_, rfl⟩
        have hdiv : (m : Int) / 2 = hh := by omega
        have hdiv2 : (m : Int).tdiv 2 = hh := by
          rw [show (m : Int) = 2 * hh by omega]; exact Int.mul_tdiv_cancel_left _ (by omega)
        have hh32 : hh ≤ 32 := by omega
        have hk4 : k' ≤ 4 := by have := HMK.out; have := HN2.out; have := lost_le (radius_le r.hood).1 (radius_le r.hood).2; omega
        have hK16 : 1 ≤ K ∧ K ≤ 16 := by
          rw [← hK]
          exact ⟨Nat.one_le_two_pow, Nat.pow_le_pow_right (by omega) hk4⟩
        have hshl : wrap64 ((2 : Int) ^ k') = K := by
          rw [show ((2 : Int) ^ k') = (K : Int) by rw [← hK]; simp]
          exact IntWalk.wrap64_in _ (by omega)
        have HSHL := Lib.hid hshl
        clear hshl
        have HHH := Lib.hid hhh
        clear hRn hm hq hK hm4 hKq hmar hC hhh
        go_wp2_with fail
        refine (HC.out _ F6 id t (HF6.out.fr (G := []) (by (repeat (first | exact Fr.refl _ _ | assumption | apply Fr.drewN | apply Fr.drew | apply Fr.alloc | refine Fr.setCell ?_ (Or.inr (by simp; try omega)) _))) (by simp)) HI.out).mono ?_
        rintro e w7 ⟨la, lc, rfl, hgath, hf⟩
        have HG := Lib.hid hgath
        have hf67 : Fr [] w6 w7 := Fr.trans0 (by (repeat (first | exact Fr.refl _ _ | assumption | apply Fr.drewN | apply Fr.drew | apply Fr.alloc | refine Fr.setCell ?_ (Or.inr (by simp; try omega)) _))) hf
        have HF7 := Lib.hid (HF6.out.fr hf67 (by simp))
        have H7 := Lib.hid (H6.out.step hf67)
        have H67 := Lib.hid hf67
        have Hru7 := Lib.hid (Hru6.out.fr hf67)
        obtain ⟨m0, m1, m2, m3, m4, ml⟩ := rmemo_cells H7.out
        clear hgath hf hf67 HC H6
        obtain ⟨B, hB⟩ : ∃ B, w6.heap.size = B := ⟨_, rfl⟩
        rw [hB] at HG
        have HG0 := Lib.hid (show Gath w7 B (ge B) (.slice la m lc) (gridL m (it (gen r) 0 (cell n t)) ((R * 0 : Nat) : Int) ((R * 0 : Nat) : Int)) by
          have e : gridL m (it (gen r) 0 (cell n t)) ((R * 0 : Nat) : Int) ((R * 0 : Nat) : Int) = cellsL n t := by rw [Nat.mul_zero]; unfold cellsL; rw [HM.out.1]; rfl
          rw [e]; exact HG.out)
        clear HG
        have HB := Lib.hid hB
        clear hB
        go_wp2
        go_loopw [9, 11] (fun x9 x11 wr => ∃ (g z : Nat) (a' : Option Addr) (c' : Nat), x11 = .int .i64 g ∧ g ≤ K ∧ z + 2 * (R * g) = m ∧ x9 = .slice a' z c' ∧ Hid (Gath wr B (ge B) (.slice a' z c') (gridL z (it (gen r) g (cell n t)) ((R * g : Nat) : Int) ((R * g : Nat) : Int))) ∧ Hid (Fr [] w7 wr)) (fun _ z _ => K - (intOf z).toNat)
        case atStart => exact ⟨0, m, la, lc, rfl, Nat.zero_le _, rfl, rfl, HG0, Lib.hid (Fr.refl _ _)⟩
        case round =>
          clear HG0
          obtain ⟨g, z, a', c', rfl, hg, hz, rfl, HG, Hf8⟩ := hrel
          have hz9 : z ≤ m := by omega
          have HZ := Lib.hid hz
          clear hz
          by_cases hlt : g < K
          · have hd : decide ((g : Int) < K) = true := by simp; omega
            have hshl := HSHL.out
            go_wp2
            clear hshl
            refine wp_region_segs [([0, 1, 2, 3, 4, 5, 6, 7, 8, 9, 10], [3]), ([11, 12], [])] (by kernel_rfl) (by kernel_rfl) ?_
            (simp only [wpSegs, pick, Array.getD_eq_getD_getElem?, List.getElem?_toArray, List.getElem?_cons_succ, List.getElem?_cons_zero, Option.getD_some])
            have hm8 := Hf8.out
            have m0 := (hm8.cell (p := ⟨mb, 0, none⟩) ml (by simp)).trans m0
            have m1 := (hm8.cell (p := ⟨mb, 1, none⟩) ml (by simp)).trans m1
            have m2 := (hm8.cell (p := ⟨mb, 2, none⟩) ml (by simp)).trans m2
            have mlw : mb < wr.heap.size := by have := hm8.size; omega
            clear hm8
            go_wp2_with fail
            refine (RHRadius_calls (Hru7.out.fr (Fr.trans0 Hf8.out (by (repeat (first | exact Fr.refl _ _ | assumption | apply Fr.drewN | apply Fr.drew | apply Fr.alloc | refine Fr.setCell ?_ (Or.inr (by simp; try omega)) _))))).1 hlh).mono ?_
            rintro e w8 ⟨rfl, hf⟩
            rw [HRad.out]
            have hfw : Fr [] wr w8 := Fr.trans0 (by (repeat (first | exact Fr.refl _ _ | assumption | apply Fr.drewN | apply Fr.drew | apply Fr.alloc | refine Fr.setCell ?_ (Or.inr (by simp; try omega)) _))) hf
            have m0 := (hfw.cell (p := ⟨mb, 0, none⟩) mlw (by simp)).trans m0
            have m1 := (hfw.cell (p := ⟨mb, 1, none⟩) mlw (by simp)).trans m1
            have m2 := (hfw.cell (p := ⟨mb, 2, none⟩) mlw (by simp)).trans m2
            have mlw8 : mb < w8.heap.size := by have := hfw.size; omega
            have Hf8 := Lib.hid (Hf8.out.trans0 hfw)
            have HG := Lib.hid (HG.out.fr hfw)
            clear hf hfw mlw
            go_wp2
            refine Mid.intro ⟨⟨again_row (T := 31) (cs := [.int .i64 r.S, .slice ha r.hood.length hc, .slice na r.nodes.length nc]) rfl rfl rfl Try.underlying31 rfl (by kernel_rfl) (fun j v hj => by
              match j, hj with
              | 0, hj => exact m0.trans hj
              | 1, hj => exact m1.trans hj
              | 2, hj => exact m2.trans hj) rfl, trivial⟩, ?_⟩
            have hRg : R * g + R ≤ q := by
              have h1 := HKQ.out
              have h2 : R * (g + 1) ≤ R * K := Nat.mul_le_mul_left R hlt
              rw [Nat.mul_succ] at h2
              omega
            obtain ⟨z2, hz2⟩ : ∃ z2, z = z2 + 2 * R := ⟨z - 2 * R, by have := HZ.out; have := HM4.out; omega⟩
            have hz21 : 1 ≤ z2 := by have := HZ.out; have := HM4.out; omega
            have hz2m : z2 + 2 * (R * (g + 1)) = m := by have := HZ.out; rw [Nat.mul_succ]; omega
            have hin := RInner_calls (w := w8) (c := c') (F := it (gen r) g (cell n t)) (ox := ((R * g : Nat) : Int)) (oy := ((R * g : Nat) : Int)) hR (Hru7.out.fr Hf8.out) HG.out.rows HRad.out hz2 (by have := HM4.out; omega) hz21 (fun i j i1 i2 j1 j2 => by
              have hp : p2 n = (m : Int) := by rw [← HM.out.1]; simp [p2]
              have hok := it_ok hR (F := cell n t) (x := 0) (y := 0) (L := (m : Int)) (fun i j a1 a2 a3 a4 => by
                have := cell_ok n HI.out.2.2.1 HI.out.2.2.2 (x := i) (y := j) a1 (by rw [hp]; exact a2) a3 (by rw [hp]; exact a4)
                rwa [Int.zero_add, Int.zero_add]) g (i := ((R * g : Nat) : Int) + i) (j := ((R * g : Nat) : Int) + j)
              rw [HRad.out, show (R : Int) * (g : Int) = ((R * g : Nat) : Int) by simp] at hok
              have hz := HZ.out
              have := hok (by omega) (by omega) (by omega) (by omega)
              rwa [Int.zero_add, Int.zero_add] at this)
            have HIN := Lib.hid hin
            have HZ2 := Lib.hid hz2m
            clear hin hz2m hRg hz2 m0 m1 m2
            go_wp2_with fail
            refine HIN.out.mono ?_
            rintro e w9 ⟨v9, rfl, hg9o, hf9⟩
            have hs7 : B ≤ w8.heap.size := by
              have h1 := Hf8.out.size
              have h2 := HB.out
              have h3 := H67.out.size
              omega
            have hg9 := hg9o.low (base' := B) (P' := ge B) hs7 (fun g hg => Nat.le_trans hs7 hg)
            clear hg9o
            obtain ⟨a9, c9, hv9⟩ := hg9.form
            rw [gridL_length] at hv9
            rw [hv9] at hg9
            subst hv9
            have HG9 := Lib.hid (show Gath w9 B (ge B) (.slice a9 z2 c9) (gridL z2 (it (gen r) (g + 1) (cell n t)) ((R * (g + 1) : Nat) : Int) ((R * (g + 1) : Nat) : Int)) by
              rw [show ((R * (g + 1) : Nat) : Int) = ((R * g : Nat) : Int) + R by rw [Nat.mul_succ]; omega]
              exact hg9)
            have Hf9 := Lib.hid (Hf8.out.trans0 hf9)
            clear hg9 hf9 HIN hs7
            go_wp2
            refine Mid.intro ⟨trivial, Strict.intro rfl ?_⟩
            go_wp2
            go_roundw
            case rel => exact ⟨g + 1, z2, a9, c9, by go_num, by omega, HZ2.out, rfl, HG9, Lib.hid (Hf9.out.trans0 (by (repeat (first | exact Fr.refl _ _ | assumption | apply Fr.drewN | apply Fr.drew | apply Fr.alloc | refine Fr.setCell ?_ (Or.inr (by simp; try omega)) _))))⟩
            case measure => simp [intOf]; omega
          · have hgK : g = K := by omega
            subst hgK
            have hd : decide ((g : Int) < g) = false := by simp
            obtain ⟨ct, hct⟩ : ∃ ct, R * g + ct = q := ⟨q - R * g, by have := HKQ.out; omega⟩
            have hzc : z = hh + 2 * ct := by have := HZ.out; have := HM4.out; have := HHH.out; omega
            have hdz : ((z : Int) - hh) / 2 = ct := by omega
            have hdz2 : ((z : Int) - hh).tdiv 2 = ct := by
              rw [show (z : Int) - hh = 2 * ct by omega]; exact Int.mul_tdiv_cancel_left _ (by omega)
            have hsz := Hf8.out.size
            have hBF : ∀ x ∈ F6, x < B := fun x hx => by rw [← HB.out]; exact HF6.out.lt x hx
            have hB8 : B ≤ wr.heap.size := by
              have h2 := HB.out
              have h3 := H67.out.size
              omega
            have HSQ := Lib.hid (show ∀ w1, Fr [] wr w1 → _ from fun w1 hf => RSquare_calls (w := w1) (x := ct) (y := ct) (n := hh) (((HG.out.fr hf).off (G := F6) fun x hx => ⟨hBF x hx, fun h => absurd (hBF x hx) (Nat.not_lt.2 h)⟩)) (fun x hx => by have := hBF x hx; have := hf.size; omega) (by omega) (by omega) (by have := HHH.out; omega) (by have := HZ.out; omega))
            have HCT := Lib.hid hct
            have hct1 : (ct : Int) ≤ 100 := by omega
            have hct0 : ct ≤ 100 := by omega
            have hm8 := Hf8.out
            have m3 := (hm8.cell (p := ⟨mb, 3, none⟩) ml (by simp)).trans m3
            have mlw : mb < wr.heap.size := by have := hm8.size; omega
            have H8 := Lib.hid (H7.out.step Hf8.out)
            have HF8 := Lib.hid (HF7.out.fr Hf8.out (by simp))
            have hshl := HSHL.out
            clear hm8 hct hBF hB8 m0 m1 m2 m4 hzc
            go_wp2
            clear hshl
            refine wp_region_segs [([0, 1, 2, 3, 4, 5, 6, 7, 8], [3]), ([9, 10, 11, 12, 13, 14], [])] (by kernel_rfl) (by kernel_rfl) ?_
            (simp only [wpSegs, pick, Array.getD_eq_getD_getElem?, List.getElem?_toArray, List.getElem?_cons_succ, List.getElem?_cons_zero, Option.getD_some])
            go_wp2_with fail
            refine (HSQ.out _ (by (repeat (first | exact Fr.refl _ _ | assumption | apply Fr.drewN | apply Fr.drew | apply Fr.alloc | refine Fr.setCell ?_ (Or.inr (by simp; try omega)) _)))).mono ?_
            rintro e w9 ⟨c9, a9, rfl, hro, hf9⟩
            have hf9 : Fr [] wr w9 := Fr.trans0 (by (repeat (first | exact Fr.refl _ _ | assumption | apply Fr.drewN | apply Fr.drew | apply Fr.alloc | refine Fr.setCell ?_ (Or.inr (by simp; try omega)) _))) hf9
            have m3 := (hf9.cell (p := ⟨mb, 3, none⟩) mlw (by simp)).trans m3
            have mlw9 : mb < w9.heap.size := by have := hf9.size; omega
            have H9 := Lib.hid (H8.out.step hf9)
            have HF9 := Lib.hid (HF8.out.fr hf9 (by simp))
            have HRO := Lib.hid hro
            have HOK := Lib.hid (show ∀ i j : Nat, i < hh → j < hh → 0 ≤ it (gen r) g (cell n t) (((R * g : Nat) : Int) + ct + i) (((R * g : Nat) : Int) + ct + j) ∧ it (gen r) g (cell n t) (((R * g : Nat) : Int) + ct + i) (((R * g : Nat) : Int) + ct + j) < r.S from fun i j h1 h2 => by
              have hp : p2 n = (m : Int) := by rw [← HM.out.1]; simp [p2]
              have hok := it_ok hR (F := cell n t) (x := 0) (y := 0) (L := (m : Int)) (fun i j a1 a2 a3 a4 => by
                have := cell_ok n HI.out.2.2.1 HI.out.2.2.2 (x := i) (y := j) a1 (by rw [hp]; exact a2) a3 (by rw [hp]; exact a4)
                rwa [Int.zero_add, Int.zero_add]) g (i := ((R * g : Nat) : Int) + ct + i) (j := ((R * g : Nat) : Int) + ct + j)
              rw [HRad.out, show (R : Int) * (g : Int) = ((R * g : Nat) : Int) by simp] at hok
              have hc := HCT.out
              have h4 := HM4.out
              have h5 := HHH.out
              have := hok (by omega) (by omega) (by omega) (by omega)
              rwa [Int.zero_add, Int.zero_add] at this)
            have HT := Lib.hid (show mk (n - 1) (it (gen r) g (cell n t)) (((R * g : Nat) : Int) + ct) (((R * g : Nat) : Int) + ct) = stp (gen r) n k' t by
              unfold stp
              have e2 : p2 (n - 2) = (q : Int) := by rw [← HM.out.2.1]; simp [p2]
              rw [HM.out.2.2, e2, show ((R * g : Nat) : Int) + ct = q by have := HCT.out; omega])
            clear hro hf9 HSQ HG HF8 H8
            go_wp2
            refine Mid.intro ⟨⟨again_cell (T := 47) rfl rfl rfl Try.underlying47 rfl m3 rfl, trivial⟩, ?_⟩
            have HB9 := Lib.hid (Has.updE (f := 48) (Pr := Try.prog) (args := #[.pointer (some ⟨sb, 0, none⟩), .slice a9 hh c9]) (Q := fun e P' => ∃ id' ns', P' = refR sb r.S ns' ∧ e = .returned (.tuple #[.int .i64 id', .int .i64 0]) ∧ ns <+: ns' ∧ Is r.S ns' (n - 1) id' (stp (gen r) n k' t)) H9.out (fun F hF => by
              have hFF : F = F6 := refAt_one hF HF9.out
              subst hFF
              have hb := build_all (s := r.S) (L := L) (b := sb) (n - 1) (by have := HN2.out; omega) hdum w9 F ns a9 hh c9 _ _ _ (by
                have h1 := HM.out.2.1
                have h2 := HHH.out
                have h3 := HN2.out
                rw [h2, ← h1, show n - 1 = (n - 2) + 1 by omega, Nat.pow_succ]; omega) hF Hroom.out HRO.out HOK.out (fun u hu => HL.out u (by rw [← HT.out]; exact hu))
              refine hb.mono ?_
              rintro e w' ⟨id', ns', F', rfl, h1, h2, h3, h4, h5, h6⟩
              exact ⟨refR sb r.S ns', ⟨id', ns', rfl, rfl, h4, by rw [← HT.out]; exact h6⟩, F', h1, h2, h3⟩))
            clear HRO HOK HF9 HF6 H7 HF7 H9
            go_wp2_with fail
            refine HB9.out.mono ?_
            rintro e w10 ⟨P', ⟨id', ns', rfl, rfl, hp, hi⟩, hhas⟩
            have H10 := Lib.hid hhas
            have HRES := Lib.hid (And.intro hp hi)
            obtain ⟨g0, gf, gl⟩ := has_cells hhas.drop
            have m4 : w10.cell? ⟨mb, 4, none⟩ = some (.slice none 0 0) := g0 4
            have z4 := gf 4
            clear hhas hp hi g0 gf m3 mlw mlw9 HB9
            go_wp2
            refine Mid.intro ⟨trivial, Strict.intro rfl ?_⟩
            go_wp2
            go_loopw [15, 16] (fun x15 x wr => x15 = .bool false ∧ x = .int .i64 0 ∧ Hid (Fr [] w10 wr)) (fun _ _ _ => 0)
            case atStart => exact ⟨rfl, rfl, Lib.hid (by (repeat (first | exact Fr.refl _ _ | assumption | apply Fr.drewN | apply Fr.drew | apply Fr.alloc | refine Fr.setCell ?_ (Or.inr (by simp; try omega)) _)))⟩
            case round =>
              obtain ⟨rfl, rfl, Hf11⟩ := hrel
              have m4 := (Hf11.out.cell (p := ⟨mb, 4, none⟩) gl (by simp)).trans m4
              have z4 := (Hf11.out.frozen (p := ⟨mb, 4, none⟩) gl (by simp)).trans z4
              have gl1 : mb < wr.heap.size := by have := Hf11.out.size; omega
              have H11 := Lib.hid (H10.out.step Hf11.out)
              go_wp2_with (at_builtin; refine append_pair (y := id) (z := k') rfl rfl rfl rfl ?kk2 ?_)
              case kk2 => first | (first | (rw [hp_alloc, if_pos rfl]; done) | exact (Array.getElem?_eq_some_iff.1 ((hp_alloc _ _ _).trans (if_pos rfl))).2 | (simp only [hp_drew, hp_drewN]; rw [hp_alloc, if_pos rfl]; done)) | (repeat (first | rw [if_pos (by omega)] | rw [if_neg (by omega)] | rw [hp_drew] | rw [hp_drewN] | rw [hp_alloc_size] | rw [hp_setCell_size] | rw [hp_alloc] | rw [hp_setCell] | rw [Option.map_some] | rw [upd_cells] | rw [List.set_cons_zero] | rw [List.set_cons_succ] | rfl))
              intro g12 c12 w12 h12
              have hf12 : Fr [] wr w12 := Fr.trans0 (by (repeat (first | exact Fr.refl _ _ | assumption | apply Fr.drewN | apply Fr.drew | apply Fr.alloc | refine Fr.setCell ?_ (Or.inr (by simp; try omega)) _))) h12
              have m4 := (hf12.cell (p := ⟨mb, 4, none⟩) gl1 (by simp)).trans m4
              have z4 := (hf12.frozen (p := ⟨mb, 4, none⟩) gl1 (by simp)).trans z4
              have gl2 : mb < w12.heap.size := by have := hf12.size; omega
              have H12 := Lib.hid (H11.out.step hf12)
              clear h12 hf12 H11
              go_wp2
              go_ret2
              exact .inr (.inr ⟨n, t, k', HI.out, rfl, HMK.out.1, HMK.out.2, id', ns', rfl, (has_set H12.out.swap 4 (.slice (some ⟨g12, 0, none⟩) 1 c12)).drop, HRES.out.1, HRES.out.2⟩)
  · have hlt : ¬ 0 ≤ lvl r.S (levs r.S ns) id := fun h => hk ((kn_lvl hg id).1 h)
    have hlv := RLevel_calls hS id
    generalize lvl r.S (levs r.S ns) id = v at hlv hlt
    have HLV := Lib.hid hlv
    have hv : decide (v < 0) = true := by simp; omega
    clear h hru hlv hroom hL hg hS
    go_enter Try.func21, Try.ntmps21
    go_wp2_with fail
    refine HLV.out.mono ?_
    rintro e w5 ⟨rfl, hf⟩
    have H5 := Lib.hid (H.out.step (Fr.trans0 (by (repeat (first | exact Fr.refl _ _ | assumption | apply Fr.drewN | apply Fr.drew | apply Fr.alloc | refine Fr.setCell ?_ (Or.inr (by simp; try omega)) _))) hf))
    have Hru5 := Lib.hid (Hru.out.fr (Fr.trans0 (by (repeat (first | exact Fr.refl _ _ | assumption | apply Fr.drewN | apply Fr.drew | apply Fr.alloc | refine Fr.setCell ?_ (Or.inr (by simp; try omega)) _))) hf))
    clear hf m3 ml
    go_wp2
    all_goals
      go_ret2
      exact .inl ⟨hk, rfl, H5.out⟩
end Go.Proofs.Ytppmnmheodimoaa
end
