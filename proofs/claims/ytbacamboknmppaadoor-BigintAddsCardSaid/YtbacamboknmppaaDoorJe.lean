/- Big integers: Compare, Neg, From, Int. -/
import Derived.Test.YtbacamboknmppaaDoorJd
import Derived.Deep.RegionHeld3
namespace Go.Proofs.YtbacamboknmppaaDoor
open Go Go.RowKit Go.Proofs.Rg Go.Proofs.Hp Go.Proofs.Bn
set_option linter.unusedVariables false
set_option linter.unusedSimpArgs false
def cmpS (na : Bool) (da : List Nat) (nb : Bool) (db : List Nat) : Int :=
  if (RightB na da && RightB nb db) = false then 0 else if na = nb then (if na then cmpN (val 4294967296 db) (val 4294967296 da) else cmpN (val 4294967296 da) (val 4294967296 db)) else if na then -1 else 1
set_option maxHeartbeats 4000000 in
set_option maxRecDepth 100000 in
theorem Compare_calls {w : World} {na nb : Bool} {da db : List Nat} {va vb : Value} (ha : Reads w va da.length 1 (u32s da)) (hb : Reads w vb db.length 1 (u32s db)) (hDa : Dig 4294967296 da) (hDb : Dig 4294967296 db) (hla : da.length ≤ 10000) (hlb : db.length ≤ 10000) :
    Calls Tryd.prog 33 #[.agg #[.bool na, va], .agg #[.bool nb, vb]] w fun e w' => e = .returned (.int .i64 (cmpS na da nb db)) ∧ Fr [] w w' := by
  have hra := fun w1 (hf : Fr [] w w1) => Right_calls (neg := na) (ha.fr hf) (by omega)
  have hrb := fun w1 (hf : Fr [] w w1) => Right_calls (neg := nb) (hb.fr hf) (by omega)
  have Ha := Lib.hid ha
  have Hb := Lib.hid hb
  obtain ⟨_, a, ac, rfl, _⟩ := ha
  obtain ⟨_, b, bc, rfl, _⟩ := hb
  have HDa := Lib.hid hDa
  have HDb := Lib.hid hDb
  obtain ⟨r, hS⟩ : ∃ r, r = cmpS na da nb db := ⟨_, rfl⟩
  rw [← hS]
  unfold cmpS at hS
  clear hDa hDb
  cases hR1 : RightB na da with
  | false =>
    rw [hR1] at hra hS
    simp only [Bool.false_and, if_true] at hS
    subst hS
    have Hra := Lib.hid hra
    clear hR1 hra hrb
    go_enter Tryd.func33, Tryd.ntmps33
    go_wp2_with fail
    refine (Hra.out _ (by (repeat (first | exact Fr.refl _ _ | assumption | apply Fr.drewN | apply Fr.drew | apply Fr.alloc | refine Fr.setCell ?_ (Or.inr (by simp; try omega)) _)))).mono ?_
    rintro e w1 ⟨rfl, hf⟩
    have Hf := Lib.hid (Fr.trans0 (by (repeat (first | exact Fr.refl _ _ | assumption | apply Fr.drewN | apply Fr.drew | apply Fr.alloc | refine Fr.setCell ?_ (Or.inr (by simp; try omega)) _)) : Fr [] w _) hf)
    clear hf
    go_wp2
    go_ret
    exact ⟨rfl, Hf.out⟩
  | true =>
    rw [hR1] at hra hS
    obtain ⟨cA, lA, _⟩ := right_canon hR1
    have HcA := Lib.hid cA
    have Hra := Lib.hid hra
    clear hR1 hra cA
    cases hR2 : RightB nb db with
    | false =>
      rw [hR2] at hrb hS
      simp only [Bool.and_false, if_true] at hS
      subst hS
      have Hrb := Lib.hid hrb
      clear hR2 hrb
      go_enter Tryd.func33, Tryd.ntmps33
      go_wp2_with fail
      refine (Hra.out _ (by (repeat (first | exact Fr.refl _ _ | assumption | apply Fr.drewN | apply Fr.drew | apply Fr.alloc | refine Fr.setCell ?_ (Or.inr (by simp; try omega)) _)))).mono ?_
      rintro e w1 ⟨rfl, hf⟩
      have hb1 := (hf.block (w.heap.size + 1) (by simp) (by simp)).trans (show _ = some (.cells #[.bool nb, .slice b db.length bc] 24 (0, 0)) by (repeat (first | rw [if_pos (by omega)] | rw [if_neg (by omega)] | rw [hp_drew] | rw [hp_drewN] | rw [hp_alloc_size] | rw [hp_setCell_size] | rw [hp_alloc] | rw [hp_setCell] | rw [Option.map_some] | rw [upd_cells] | rw [List.set_cons_zero] | rw [List.set_cons_succ] | rfl)))
      have b0 := heap_eq_cell hb1 0
      have b1 := heap_eq_cell hb1 1
      have bl := lt_of_block hb1
      have Hf1 := Lib.hid (Fr.trans0 (by (repeat (first | exact Fr.refl _ _ | assumption | apply Fr.drewN | apply Fr.drew | apply Fr.alloc | refine Fr.setCell ?_ (Or.inr (by simp; try omega)) _)) : Fr [] w _) hf)
      clear hf hb1
      go_wp2_with fail
      refine (Hrb.out _ Hf1.out).mono ?_
      rintro e w2 ⟨rfl, hf⟩
      have Hf := Lib.hid (Hf1.out.trans0 hf)
      clear hf b0 b1
      go_wp2
      go_ret
      exact ⟨rfl, Hf.out⟩
    | true =>
      rw [hR2] at hrb hS
      obtain ⟨cB, lB, _⟩ := right_canon hR2
      have HcB := Lib.hid cB
      simp only [Bool.and_self, Bool.true_eq_false, if_false] at hS
      have Hrb := Lib.hid hrb
      have hag := fun w3 (hf : Fr [] w w3) => against_calls (Ha.out.fr hf) (Hb.out.fr hf) HDa.out HDb.out HcA.out cB (by omega) (by omega)
      have hag2 := fun w3 (hf : Fr [] w w3) => against_calls (Hb.out.fr hf) (Ha.out.fr hf) HDb.out HDa.out cB HcA.out (by omega) (by omega)
      generalize cmpN (val 4294967296 da) (val 4294967296 db) = q1 at *
      generalize cmpN (val 4294967296 db) (val 4294967296 da) = q2 at *
      have Hag := Lib.hid hag
      have Hag2 := Lib.hid hag2
      have HS := Lib.hid hS
      clear hR2 hrb cB hag hag2 hS
      go_enter Tryd.func33, Tryd.ntmps33
      go_wp2_with fail
      refine (Hra.out _ (by (repeat (first | exact Fr.refl _ _ | assumption | apply Fr.drewN | apply Fr.drew | apply Fr.alloc | refine Fr.setCell ?_ (Or.inr (by simp; try omega)) _)))).mono ?_
      rintro e w1 ⟨rfl, hf⟩
      have hb1 := (hf.block (w.heap.size + 1) (by simp) (by simp)).trans (show _ = some (.cells #[.bool nb, .slice b db.length bc] 24 (0, 0)) by (repeat (first | rw [if_pos (by omega)] | rw [if_neg (by omega)] | rw [hp_drew] | rw [hp_drewN] | rw [hp_alloc_size] | rw [hp_setCell_size] | rw [hp_alloc] | rw [hp_setCell] | rw [Option.map_some] | rw [upd_cells] | rw [List.set_cons_zero] | rw [List.set_cons_succ] | rfl)))
      have b0 := heap_eq_cell hb1 0
      have b1 := heap_eq_cell hb1 1
      have bl := lt_of_block hb1
      have Hb1 := Lib.hid hb1
      have Ha1 := Lib.hid ((hf.block w.heap.size (by simp; omega) (by simp)).trans (show _ = some (.cells #[.bool na, .slice a da.length ac] 24 (0, 0)) by (repeat (first | rw [if_pos (by omega)] | rw [if_neg (by omega)] | rw [hp_drew] | rw [hp_drewN] | rw [hp_alloc_size] | rw [hp_setCell_size] | rw [hp_alloc] | rw [hp_setCell] | rw [Option.map_some] | rw [upd_cells] | rw [List.set_cons_zero] | rw [List.set_cons_succ] | rfl))))
      have Hf1 := Lib.hid (Fr.trans0 (by (repeat (first | exact Fr.refl _ _ | assumption | apply Fr.drewN | apply Fr.drew | apply Fr.alloc | refine Fr.setCell ?_ (Or.inr (by simp; try omega)) _)) : Fr [] w _) hf)
      clear hf hb1
      go_wp2_with fail
      refine (Hrb.out _ Hf1.out).mono ?_
      rintro e w2 ⟨rfl, hf⟩
      have ha2 := (hf.block _ (lt_of_block Ha1.out) (by simp)).trans Ha1.out
      have hb2 := (hf.block _ (lt_of_block Hb1.out) (by simp)).trans Hb1.out
      clear b0 b1 bl
      have a0 := heap_eq_cell ha2 0
      have a1 := heap_eq_cell ha2 1
      have al := lt_of_block ha2
      have b0 := heap_eq_cell hb2 0
      have b1 := heap_eq_cell hb2 1
      have bl := lt_of_block hb2
      have Hf := Lib.hid (Hf1.out.trans0 hf)
      clear hf ha2 hb2
      cases na <;> cases nb
      · go_wp2_with fail
        refine (Hag.out _ Hf.out).mono ?_
        rintro e w3 ⟨rfl, hd⟩
        have Hf3 := Lib.hid (Hf.out.trans0 (hd.fr []))
        clear hd a0 a1 b0 b1
        go_wp2
        go_ret
        exact ⟨by rw [HS.out]; rfl, Hf3.out⟩
      · go_wp2
        go_ret
        exact ⟨by rw [HS.out]; rfl, Hf.out⟩
      · go_wp2
        go_ret
        exact ⟨by rw [HS.out]; rfl, Hf.out⟩
      · go_wp2_with fail
        refine (Hag2.out _ Hf.out).mono ?_
        rintro e w3 ⟨rfl, hd⟩
        have Hf3 := Lib.hid (Hf.out.trans0 (hd.fr []))
        clear hd a0 a1 b0 b1
        go_wp2
        go_ret
        exact ⟨by rw [HS.out]; rfl, Hf3.out⟩
/-- what a function that returns a big integer leaves -/
def BigPost1 (w : World) (A : Nat → Prop) (r : Bool × List Nat × Int) (e : Ending) (w' : World) : Prop :=
  ∃ a c, (r.2.1.length ≤ c ∧ ∀ g, (Value.slice a r.2.1.length c).ownBlock = some g → A g) ∧ e = .returned (.agg #[.bool r.1, .slice a r.2.1.length c]) ∧ Reads w' (.slice a r.2.1.length c) r.2.1.length 1 (u32s r.2.1) ∧ Fr [] w w'
def negS (na : Bool) (da : List Nat) : Bool × List Nat × Int := if RightB na da = false then (false, [], 0) else mkN (!na) (val 4294967296 da)
theorem frcell {w w' : World} (h : Fr [] w w') : (∀ b o, b < w.heap.size → w'.cell? ⟨b, o, none⟩ = w.cell? ⟨b, o, none⟩) ∧ (∀ b o, b < w.heap.size → w'.frozen? ⟨b, o, none⟩ = w.frozen? ⟨b, o, none⟩) :=
  ⟨fun b o hb => h.cell (p := ⟨b, o, none⟩) hb (by simp), fun b o hb => h.frozen (p := ⟨b, o, none⟩) hb (by simp)⟩
theorem owns_cap {w : World} {base e size n : Nat} {a : Option Addr} {c : Nat} {xs : List Value} (h : w.ownsRow base e size (.slice a n c) n xs) : n ≤ c := by
  rcases h.2 with ⟨h1, h0⟩ | ⟨g, cap, cur, h1, _, _, h2, _⟩
  · omega
  · cases h1; exact h2
set_option maxHeartbeats 4000000 in
set_option maxRecDepth 100000 in
theorem Neg_calls {w : World} {na : Bool} {da : List Nat} {va : Value} (ha : Reads w va da.length 1 (u32s da)) (hz : ∀ n c, va = .slice none n c → c = 0) (hDa : Dig 4294967296 da) (hla : da.length ≤ 10000) :
    Calls Tryd.prog 35 #[.agg #[.bool na, va]] w (BigPost1 w (w.heap.size ≤ ·) (negS na da)) := by
  have hra := fun w1 (hf : Fr [] w w1) => Right_calls (neg := na) (ha.fr hf) (by omega)
  have hcl := fun w1 (hf : Fr [] w w1) => Clone_calls (ha.fr hf) (by omega) hz
  obtain ⟨_, a, ac, rfl, _⟩ := ha
  have HDa := Lib.hid hDa
  have Hcl := Lib.hid hcl
  obtain ⟨r, hS⟩ : ∃ r, r = negS na da := ⟨_, rfl⟩
  rw [← hS]
  unfold negS at hS
  clear hDa hcl hz
  cases hR1 : RightB na da with
  | false =>
    rw [hR1] at hra hS
    rw [if_pos rfl] at hS
    subst hS
    have Hra := Lib.hid hra
    clear hR1 hra
    go_enter Tryd.func35, Tryd.ntmps35
    go_wp2_with fail
    refine (Hra.out _ (by (repeat (first | exact Fr.refl _ _ | assumption | apply Fr.drewN | apply Fr.drew | apply Fr.alloc | refine Fr.setCell ?_ (Or.inr (by simp; try omega)) _)))).mono ?_
    rintro e w1 ⟨rfl, hf⟩
    have hc := (hf.block (w.heap.size + 1) (by simp) (by simp)).trans (show _ = some (.cells #[.bool false, .slice none 0 0] 24 (0, 0)) by (repeat (first | rw [if_pos (by omega)] | rw [if_neg (by omega)] | rw [hp_drew] | rw [hp_drewN] | rw [hp_alloc_size] | rw [hp_setCell_size] | rw [hp_alloc] | rw [hp_setCell] | rw [Option.map_some] | rw [upd_cells] | rw [List.set_cons_zero] | rw [List.set_cons_succ] | rfl)))
    have c0 := heap_eq_cell hc 0
    have c1 := heap_eq_cell hc 1
    have z0 := heap_eq_frozen hc 0
    have z1 := heap_eq_frozen hc 1
    have cl := lt_of_block hc
    have Hc := Lib.hid hc
    have Hf := Lib.hid (Fr.trans0 (by (repeat (first | exact Fr.refl _ _ | assumption | apply Fr.drewN | apply Fr.drew | apply Fr.alloc | refine Fr.setCell ?_ (Or.inr (by simp; try omega)) _)) : Fr [] w _) hf)
    clear hf hc
    go_wp2
    (try simp only [Exit.inBlock, Exit.then])
    refine bodyPost_ret (big_result1 rfl (b := w.heap.size + 1) (x := .bool false) (y := .slice none 0 0) rfl ?_) rfl ⟨_, _, ⟨Nat.le_refl _, fun g hg => (by cases hg)⟩, rfl, reads_nil _, ?_⟩
    · have h := Hc.out
      (repeat (first | rw [if_pos (by omega)] | rw [if_neg (by omega)] | rw [hp_drew] | rw [hp_drewN] | rw [hp_alloc_size] | rw [hp_setCell_size] | rw [hp_alloc] | rw [hp_setCell] | rw [Option.map_some] | rw [upd_cells] | rw [List.set_cons_zero] | rw [List.set_cons_succ] | rfl))
      rw [h]
      (repeat (first | rw [if_pos (by omega)] | rw [if_neg (by omega)] | rw [hp_drew] | rw [hp_drewN] | rw [hp_alloc_size] | rw [hp_setCell_size] | rw [hp_alloc] | rw [hp_setCell] | rw [Option.map_some] | rw [upd_cells] | rw [List.set_cons_zero] | rw [List.set_cons_succ] | rfl))
    · exact (Hf.out.setCell (.inr (by simp; try omega)) _).setCell (.inr (by simp; try omega)) _
  | true =>
    rw [hR1] at hra hS
    rw [if_neg (by decide)] at hS
    have Hmd := Lib.hid (fun (w1 : World) (a : Option Addr) (c : Nat) (hv : Reads w1 (.slice a da.length c) da.length 1 (u32s da)) (hc : da.length ≤ c) => hS ▸ made_calls (neg := !na) (A := fun g => (Value.slice a da.length c).ownBlock = some g) hv HDa.out (by omega) hc (fun g hg => hg))
    have Hra := Lib.hid hra
    clear hR1 hra hS
    go_enter Tryd.func35, Tryd.ntmps35
    go_wp2_with fail
    refine (Hra.out _ (by (repeat (first | exact Fr.refl _ _ | assumption | apply Fr.drewN | apply Fr.drew | apply Fr.alloc | refine Fr.setCell ?_ (Or.inr (by simp; try omega)) _)))).mono ?_
    rintro e w1 ⟨rfl, hf⟩
    have ha1 := (hf.block w.heap.size (by simp; omega) (by simp)).trans (show _ = some (.cells #[.bool na, .slice a da.length ac] 24 (0, 0)) by (repeat (first | rw [if_pos (by omega)] | rw [if_neg (by omega)] | rw [hp_drew] | rw [hp_drewN] | rw [hp_alloc_size] | rw [hp_setCell_size] | rw [hp_alloc] | rw [hp_setCell] | rw [Option.map_some] | rw [upd_cells] | rw [List.set_cons_zero] | rw [List.set_cons_succ] | rfl)))
    have a0 := heap_eq_cell ha1 0
    have a1 := heap_eq_cell ha1 1
    have al := lt_of_block ha1
    have Ha1 := Lib.hid ha1
    have Hc1 := Lib.hid ((hf.block (w.heap.size + 1) (by simp) (by simp)).trans (show _ = some (.cells #[.bool false, .slice none 0 0] 24 (0, 0)) by (repeat (first | rw [if_pos (by omega)] | rw [if_neg (by omega)] | rw [hp_drew] | rw [hp_drewN] | rw [hp_alloc_size] | rw [hp_setCell_size] | rw [hp_alloc] | rw [hp_setCell] | rw [Option.map_some] | rw [upd_cells] | rw [List.set_cons_zero] | rw [List.set_cons_succ] | rfl))))
    have Hf1 := Lib.hid (Fr.trans0 (by (repeat (first | exact Fr.refl _ _ | assumption | apply Fr.drewN | apply Fr.drew | apply Fr.alloc | refine Fr.setCell ?_ (Or.inr (by simp; try omega)) _)) : Fr [] w _) hf)
    clear hf ha1
    go_wp2
    have n10 := World.new_ne w1 _ a0
    have n11 := World.new_ne w1 _ a1
    go_region_held3 (fun w' => w'.cell? ⟨w.heap.size, 0, none⟩ = some (.bool na) ∧ w'.cell? ⟨w.heap.size, 1, none⟩ = some (.slice a da.length ac)) (first | go_keep | exact ⟨k20, k21⟩ | exact ⟨k30, k31⟩)
      (first | (go_at_call 59; refine (Hcl.out _ ?_).mono ?_; (· refine Hf1.out.trans0 ?_; (repeat (first | exact Fr.refl _ _ | assumption | apply Fr.drewN | apply Fr.drew | apply Fr.alloc | refine Fr.setCell ?_ (Or.inl (by simp)) _))); rintro e w2 ⟨pa, pc, rfl, ho, hf0⟩; have h12 : Fr [] w1 w2 := Fr.trans0 (by (repeat (first | exact Fr.refl _ _ | assumption | apply Fr.drewN | apply Fr.drew | apply Fr.alloc | refine Fr.setCell ?_ (Or.inl (by simp)) _))) hf0; have k20 := (h12.cell (p := ⟨w.heap.size, 0, none⟩) al (by simp)).trans a0; have k21 := (h12.cell (p := ⟨w.heap.size, 1, none⟩) al (by simp)).trans a1; have n20 := World.new_ne w2 _ k20; have n21 := World.new_ne w2 _ k21; obtain ⟨c2, z2⟩ := frcell hf0; (try (have s2 : w1.heap.size < w2.heap.size := by have h := hf0.size; simp at h; omega))) | (go_at_call 38; refine (Hmd.out _ _ _ ((Reads.of_owns ho).fr ?_) (owns_cap ho)).mono ?_; (· (repeat (first | exact Fr.refl _ _ | assumption | apply Fr.drewN | apply Fr.drew | apply Fr.alloc | refine Fr.setCell ?_ (Or.inl (by simp)) _))); rintro e w3 ⟨ra, rc, hlo, rfl, hr, hf⟩; have h13 : Fr [] w1 w3 := Fr.trans0 (Fr.trans0 h12 (by (repeat (first | exact Fr.refl _ _ | assumption | apply Fr.drewN | apply Fr.drew | apply Fr.alloc | refine Fr.setCell ?_ (Or.inl (by simp)) _)) : Fr [] w2 _)) hf; have k30 := (h13.cell (p := ⟨w.heap.size, 0, none⟩) al (by simp)).trans a0; have k31 := (h13.cell (p := ⟨w.heap.size, 1, none⟩) al (by simp)).trans a1; have n30 := World.new_ne w3 _ k30; have n31 := World.new_ne w3 _ k31; obtain ⟨c3, z3⟩ := frcell hf; (try (have s3 : w2.heap.size < w3.heap.size := by have h := hf.size; simp at h; omega)); (try (have s4 : w1.heap.size < w3.heap.size := by have h := hf.size; simp at h; omega))))
    all_goals
      have hgo := fun g hg => owns_ge ho (hlo.2 g hg)
      have hgl := fun g hg => owns_lt ho (hlo.2 g hg)
      have Hlo1 := Lib.hid hlo.1
      have hc4 := (h13.block _ (lt_of_block Hc1.out) (by simp)).trans Hc1.out
      have cl0 : w.heap.size + 1 < w1.heap.size := lt_of_block Hc1.out
      have hs12 := h12.size
      have hs13 := h13.size
      have hs23 := hf.size
      clear n10 n11 n20 n21 n30 n31 k20 k21 k30 k31 a0 a1
      have p0 := heap_eq_cell Hc1.out 0
      have p1 := heap_eq_cell Hc1.out 1
      have pz0 := heap_eq_frozen Hc1.out 0
      have pz1 := heap_eq_frozen Hc1.out 1
      have q0 := heap_eq_cell hc4 0
      have q1 := heap_eq_cell hc4 1
      have z0 := heap_eq_frozen hc4 0
      have z1 := heap_eq_frozen hc4 1
      have cl := lt_of_block hc4
      have Hc := Lib.hid hc4
      have Hgo := Lib.hid hgo
      have Hgl := Lib.hid hgl
      have Hr := Lib.hid hr
      have Hf := Lib.hid (Hf1.out.trans0 h13)
      clear hlo hr hf h12 h13 hf0 hc4 hgo hgl ho
      obtain ⟨r1, r2, r3⟩ := r
      go_wp2
      (try simp only [Exit.inBlock, Exit.then])
      refine bodyPost_ret (big_result1 rfl (b := w.heap.size + 1) (x := .bool r1) (y := .slice ra r2.length rc) rfl ?_) rfl ⟨_, _, ⟨Hlo1.out, fun g hg => (by have h := Hgo.out g hg; simp at h; omega)⟩, rfl, ?_, ?_⟩
      · have h := Hc.out
        (repeat (first | rw [if_pos (by omega)] | rw [if_neg (by omega)] | rw [hp_drew] | rw [hp_drewN] | rw [hp_alloc_size] | rw [hp_setCell_size] | rw [hp_alloc] | rw [hp_setCell] | rw [Option.map_some] | rw [upd_cells] | rw [List.set_cons_zero] | rw [List.set_cons_succ] | rfl))
        first | exact h | (rw [h]; (repeat (first | rw [if_pos (by omega)] | rw [if_neg (by omega)] | rw [hp_drew] | rw [hp_drewN] | rw [hp_alloc_size] | rw [hp_setCell_size] | rw [hp_alloc] | rw [hp_setCell] | rw [Option.map_some] | rw [upd_cells] | rw [List.set_cons_zero] | rw [List.set_cons_succ] | rfl)))
      · refine Hr.out.keep fun x hx hl => ?_
        have h1 := Hgo.out x hx
        have h2 := Hgl.out x hx
        simp at h1 hs23
        repeat (first | rw [setCell_else _ _ _ (by simp; omega)] | rw [heap_alloc_else _ _ _ (by simp; omega)])
      · repeat (first | exact Hf.out | refine Fr.alloc ?_ _ | refine Fr.setCell ?_ (.inr (by first | (simp; done) | (simp; omega))) _)
end Go.Proofs.YtbacamboknmppaaDoor
