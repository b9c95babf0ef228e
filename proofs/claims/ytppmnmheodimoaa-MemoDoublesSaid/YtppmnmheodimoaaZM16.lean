/- Own texts of this claim, part 17: no condition. -/
import Derived.Deep.MidRow
import Derived.Lib.Hide
import Derived.Test.YtppmnmheodimoaaZM15
import Derived.Test.YtppmnmheodimoaaZM7
import Derived.Test.YtppmnmheodimoaaZM10
import Derived.Test.YtppmnmheodimoaaZM6
set_option linter.unusedVariables false
set_option linter.unusedSimpArgs false
section
/- Stores and memos as things in the heap; joining with room. -/
namespace Go.Proofs.Ytppmnmheodimoaa
open Go Go.RowKit Go.Proofs.Rg Go.Proofs.Mp Go.Proofs.Hp Go.Proofs.Qs Go.Proofs.Ev
set_option linter.unusedVariables false
set_option linter.unusedSimpArgs false
/-- a store as a thing -/
def storeR (b : Nat) (s : Int) (ns : List K4) : Res where
  holds w F := StoreAt w b s ns F
  keep := fun h hk => h.keep hk
  lt := fun h => h.lt
/-- a map of results as a thing -/
def mapR (rb : Nat) (mm : List ((Int × Int) × Int)) : Res where
  holds w F := MapIs w rb (pairV .i64) (Value.int .i64) mm ∧ F = [rb]
  keep := fun ⟨h1, h2⟩ hk => ⟨h1.of_block (hk _ (by simp [h2])), h2⟩
  lt := fun ⟨h1, h2⟩ x hx => by rw [h2] at hx; simp at hx; subst hx; exact h1.lt
section
variable {W w : World} {b : Nat} {s : Int} {ns : List K4} {Ps : List Res}
theorem has_good (h : Has W w (storeR b s ns :: Ps)) : GoodQ s ns := by obtain ⟨F, hS⟩ := h.head; exact hS.1
theorem Join_has (h : Has W w (storeR b s ns :: Ps)) (x y z u : Int) :
    Calls Try.prog 40 #[.pointer (some ⟨b, 0, none⟩), .int .i64 x, .int .i64 y, .int .i64 z, .int .i64 u] w fun e w' =>
      e = .returned (.tuple #[.int .i64 (join s ns ⟨x, y, z, u⟩).1.1, .int .i64 (join s ns ⟨x, y, z, u⟩).1.2]) ∧ Has W w' (storeR b s (join s ns ⟨x, y, z, u⟩).2 :: Ps) :=
  h.upd (P' := storeR b s (join s ns ⟨x, y, z, u⟩).2) (R := fun e => e = .returned (.tuple #[.int .i64 (join s ns ⟨x, y, z, u⟩).1.1, .int .i64 (join s ns ⟨x, y, z, u⟩).1.2])) fun F hS => (Join_calls hS ⟨x, y, z, u⟩).mono fun e w' h => h
theorem JoinRoom_has (h : Has W w (storeR b s ns :: Ps)) {L : List Tr} (hr : room s ns L) {n : Nat} (hn : n < 256) {x y z u : Int} {ta tb tc td : Tr} (ha : Is s ns n x ta) (hb : Is s ns n y tb) (hc : Is s ns n z tc) (hd : Is s ns n u td) (hL : Tr.node ta tb tc td ∈ L) :
    Calls Try.prog 40 #[.pointer (some ⟨b, 0, none⟩), .int .i64 x, .int .i64 y, .int .i64 z, .int .i64 u] w fun e w' =>
      ∃ id ms, e = .returned (.tuple #[.int .i64 id, .int .i64 0]) ∧ Has W w' (storeR b s ms :: Ps) ∧ ns <+: ms ∧ room s ms L ∧ Is s ms (n + 1) id (.node ta tb tc td) := by
  obtain ⟨id, ms, hj, hg, hp, hr', hi⟩ := join_room (has_good h) hr hn ha hb hc hd hL
  refine (Join_has h x y z u).mono ?_
  rintro e w' ⟨rfl, h'⟩
  rw [hj] at h' ⊢
  exact ⟨id, ms, rfl, h', hp, hr', hi⟩
theorem Level_has (h : Has W w (storeR b s ns :: Ps)) (id : Int) :
    Calls Try.prog 25 #[.pointer (some ⟨b, 0, none⟩), .int .i64 id] w fun e w' => e = .returned (.int .i64 (lvl s (levs s ns) id)) ∧ Has W w' (storeR b s ns :: Ps) ∧ Fr [] w w' := by
  obtain ⟨F, hS⟩ := h.head
  refine (Level_calls hS id).mono ?_
  rintro e w' ⟨rfl, hd⟩
  exact ⟨rfl, h.step (hd.fr _), hd.fr _⟩
theorem LevelIs_has (h : Has W w (storeR b s ns :: Ps)) {n : Nat} {id : Int} {t : Tr} (hi : Is s ns n id t) :
    Calls Try.prog 25 #[.pointer (some ⟨b, 0, none⟩), .int .i64 id] w fun e w' => e = .returned (.int .i64 n) ∧ Has W w' (storeR b s ns :: Ps) ∧ Fr [] w w' := by
  have := Level_has h id
  rwa [hi.lvl (has_good h)] at this
theorem Kids_has (h : Has W w (storeR b s ns :: Ps)) {n : Nat} {id : Int} {t : Tr} (hi : Is s ns (n + 1) id t) :
    Calls Try.prog 83 #[.pointer (some ⟨b, 0, none⟩), .int .i64 id] w fun e w' => e = .returned (.tuple #[.agg #[.int .i64 (nodeOf s ns id).a, .int .i64 (nodeOf s ns id).b, .int .i64 (nodeOf s ns id).c, .int .i64 (nodeOf s ns id).d], .bool true]) ∧ Has W w' (storeR b s ns :: Ps) ∧ Fr [] w w' := by
  obtain ⟨F, hS⟩ := h.head
  obtain ⟨h1, h2, _⟩ := hi.node (has_good h)
  have e : kidsOf s ns id = (nodeOf s ns id, true) := by
    unfold kidsOf
    rw [if_neg (by omega), h2]
  refine (Kids_calls hS id).mono ?_
  rintro e' w' ⟨he, hf⟩
  rw [e] at he
  exact ⟨he, h.step hf, hf⟩
theorem KidsLeaf_has (h : Has W w (storeR b s ns :: Ps)) {id : Int} {t : Tr} (hi : Is s ns 0 id t) :
    Calls Try.prog 83 #[.pointer (some ⟨b, 0, none⟩), .int .i64 id] w fun e w' => e = .returned (.tuple #[.agg #[.int .i64 0, .int .i64 0, .int .i64 0, .int .i64 0], .bool false]) ∧ Has W w' (storeR b s ns :: Ps) ∧ Fr [] w w' := by
  obtain ⟨F, hS⟩ := h.head
  obtain ⟨h1, h2, _⟩ := hi.zero (has_good h)
  have e : kidsOf s ns id = (⟨0, 0, 0, 0⟩, false) := by
    unfold kidsOf
    rw [if_pos h2]
  refine (Kids_calls hS id).mono ?_
  rintro e' w' ⟨he, hf⟩
  rw [e] at he
  exact ⟨he, h.step hf, hf⟩
theorem Data_has (h : Has W w (storeR b s ns :: Ps)) :
    Calls Try.prog 35 #[.pointer (some ⟨b, 0, none⟩)] w fun e w' => ∃ a c, e = .returned (.agg #[.int .i64 s, .slice a ns.length c]) ∧ w'.ownsRow w.heap.size 77 4 (.slice a ns.length c) ns.length (flat ns) ∧ Has W w' (storeR b s ns :: Ps) ∧ Fr [] w w' := by
  obtain ⟨F, hS⟩ := h.head
  refine (Data_calls hS).mono ?_
  rintro e w' ⟨v, rfl, ho, hf⟩
  obtain ⟨a, c, rfl, _⟩ := owns_form ho
  exact ⟨a, c, rfl, ho, h.step hf, hf⟩
end
/-- the block behind a number: what a call leaves of a block that is not of the things -/
theorem has_cells {W w : World} {b : Nat} {cs : Array Value} {t : TypeId} {Ps : List Res} (h : Has W w (Hp.blk b (.cells cs t (0, 0)) :: Ps)) : (∀ j, w.cell? ⟨b, j, none⟩ = cs[j]?) ∧ (∀ j, w.frozen? ⟨b, j, none⟩ = false) ∧ b < w.heap.size :=
  ⟨fun j => heap_eq_cell h.blk j, fun j => heap_eq_frozen h.blk j, lt_of_block h.blk⟩
theorem has_set {W w : World} {b : Nat} {cs : Array Value} {t : TypeId} {Ps : List Res} (h : Has W w (Hp.blk b (.cells cs t (0, 0)) :: Ps)) (j : Nat) (v : Value) : Has W (w.setCell ⟨b, j, none⟩ v) (Hp.blk b (.cells (cs.setIfInBounds j v) t (0, 0)) :: Ps) :=
  h.turn fun F ⟨h1, h2⟩ => ⟨F, ⟨heap_setCell_here h1 j v, h2⟩, (Fr.refl F w).setCell (.inl (by simp [h2])) v, fun x hx => .inl hx⟩
theorem has_alloc {W w : World} {Ps : List Res} (h : Has W w Ps) (cs : Array Value) (t : TypeId) : Has W (w.alloc (.cells cs t (0, 0))) (Hp.blk w.heap.size (.cells cs t (0, 0)) :: Ps) := h.newBlk _
end Go.Proofs.Ytppmnmheodimoaa
end

section
/- A load of a whole struct or array looked at again, for regions walked in segments. -/
namespace Go.Proofs.Rg
set_option linter.unusedVariables false
set_option linter.unusedSimpArgs false
open Go
theorem again_row {P : Program} {ops : Array Oper} {k : Nat} {o : Oper} {a : Act} {w : World} {T : TypeId} {x : Operand} {b off : Nat} {cs : List Value} {d : TypeDesc} (hk : ops[k]? = some o) (ho : o.op = .load T x)
    (hx : a.eval x = .pointer (some ⟨b, off, none⟩)) (hT : P.underlying T = some d) (hd : d.isRow = true) (hi : (P.info? T).map (·.size) = some cs.length) (hc : w.rangeAt b off cs)
    (hv : (a.put o.dst (.agg cs.toArray)).tmps = a.tmps) : again P ops k a w := by
  intro o' ho' _
  obtain rfl : o = o' := Option.some.inj (hk.symm.trans ho')
  refine ⟨_, ?_, hv⟩
  unfold execOp
  simp only [ho, hx, Sem.run_bind, run_loadAt_mid w b off T cs d hc hT hd hi, Result.andThen_ok]
  rfl
end Go.Proofs.Rg
end

section
/- Positions compared; neighbourhoods: Right, Radius. -/
namespace Go.Proofs.Ytppmnmheodimoaa
open Go Go.RowKit Go.Proofs.Rg Go.Proofs.Hp Go.Proofs.Ev
set_option linter.unusedVariables false
set_option linter.unusedSimpArgs false
def cmpI (a b : Int) : Int := if a < b then -1 else if b < a then 1 else 0
def cmpP (p q : Int × Int) : Int := if cmpI p.2 q.2 ≠ 0 then cmpI p.2 q.2 else cmpI p.1 q.1
theorem cmpP_before (p q : Int × Int) : decide (0 ≤ cmpP p q) = !before p q := by
  unfold cmpP cmpI before
  rw [Bool.eq_iff_iff]
  simp only [decide_eq_true_eq, Bool.not_eq_true', decide_eq_false_iff_not]
  by_cases h1 : p.2 < q.2
  · simp [h1]
  · by_cases h2 : q.2 < p.2
    · simp [h1, h2]; omega
    · by_cases h3 : p.1 < q.1
      · simp [h1, h2, h3]; omega
      · by_cases h4 : q.1 < p.1
        · simp [h1, h2, h3, h4]
        · simp [h1, h2, h3, h4]
theorem ret_int' {k : IntKind} {a b : Int} (h : a = b) : Ending.returned (.int k a) = Ending.returned (.int k b) := by rw [h]
def orI (a b : Int) : Int := if a ≠ 0 then a else b
theorem orI_pos {a b : Int} (h : ¬ a = 0) : orI a b = a := by unfold orI; rw [if_pos h]
theorem orI_zero (b : Int) : orI 0 b = b := by unfold orI; simp
theorem cmpI_calls (a b : Int) (w : World) : Calls Try.prog 101 #[.int .i64 a, .int .i64 b] w fun e w' => e = .returned (.int .i64 (cmpI a b)) ∧ w = w' := by
  have h1 : (a != a) = false := by simp
  have h2 : (b != b) = false := by simp
  unfold cmpI
  by_cases h : a < b
  · rw [if_pos h]
    go_enter Try.func101, Try.ntmps101
    go_wp2
    go_ret
    exact ⟨rfl, rfl⟩
  · rw [if_neg h]
    by_cases h' : b < a
    · rw [if_pos h']
      go_enter Try.func101, Try.ntmps101
      go_wp2
      go_ret
      exact ⟨rfl, rfl⟩
    · rw [if_neg h']
      go_enter Try.func101, Try.ntmps101
      go_wp2
      go_ret
      exact ⟨rfl, rfl⟩
theorem or_calls {a b : Int} {g : Nat} {w : World} (h : w.heap[g]? = some (.cells #[.int .i64 a, .int .i64 b] 3 (0, 0))) :
    Calls Try.prog 100 #[.slice (some ⟨g, 0, none⟩) 2 2] w fun e w' => e = .returned (.int .i64 (orI a b)) ∧ Fr [] w w' := by
  have c0 := heap_eq_cell h 0
  have c1 := heap_eq_cell h 1
  simp at c0 c1
  have H := Lib.hid h
  clear h
  go_enter Try.func100, Try.ntmps100
  go_wp2
  go_loopw [8] (fun i wr => ∃ z : Int, i = .int .i64 z ∧ (z = 0 ∨ z = 1 ∧ a = 0 ∨ z = 2 ∧ a = 0 ∧ b = 0) ∧ w = wr) (fun i _ => 2 - (intOf i).toNat)
  case atStart => exact ⟨0, rfl, .inl rfl, rfl⟩
  case round =>
    obtain ⟨z, rfl, h, rfl⟩ := hrel
    rcases h with rfl | ⟨rfl, rfl⟩ | ⟨rfl, rfl, rfl⟩
    · by_cases h0 : a = 0
      · subst h0
        go_wp2
        go_roundw
        case rel => refine ⟨1, ?_⟩; simp
        case measure => simp [intOf]
      · have hn : (a != 0) = true := by simpa using h0
        go_wp2
        go_ret
        exact ⟨ret_int' (orI_pos h0).symm, by (repeat (first | exact Fr.refl _ _ | assumption | apply Fr.drewN | apply Fr.drew | apply Fr.alloc | refine Fr.setCell ?_ (Or.inr (by simp; try omega)) _))⟩
    · by_cases h0 : b = 0
      · subst h0
        go_wp2
        go_roundw
        case rel => refine ⟨2, ?_⟩; simp
        case measure => simp [intOf]
      · have hn : (b != 0) = true := by simpa using h0
        go_wp2
        go_ret
        exact ⟨ret_int' (orI_zero b).symm, by (repeat (first | exact Fr.refl _ _ | assumption | apply Fr.drewN | apply Fr.drew | apply Fr.alloc | refine Fr.setCell ?_ (Or.inr (by simp; try omega)) _))⟩
    · go_wp2
      go_ret
      exact ⟨rfl, by (repeat (first | exact Fr.refl _ _ | assumption | apply Fr.drewN | apply Fr.drew | apply Fr.alloc | refine Fr.setCell ?_ (Or.inr (by simp; try omega)) _))⟩
theorem cmpP_calls {p q : Int × Int} {w : World} : Calls Try.prog 85 #[.agg #[.int .i64 p.1, .int .i64 p.2], .agg #[.int .i64 q.1, .int .i64 q.2]] w fun e w' => e = .returned (.int .i64 (cmpP p q)) ∧ Fr [] w w' := by
  obtain ⟨px, py⟩ := p
  obtain ⟨qx, qy⟩ := q
  show Calls _ _ _ w fun e w' => e = .returned (.int .i64 (orI (cmpI py qy) (cmpI px qx))) ∧ Fr [] w w'
  have h1 := fun w => cmpI_calls py qy w
  have h2 := fun w => cmpI_calls px qx w
  generalize cmpI py qy = a at h1 ⊢
  generalize cmpI px qx = b at h2 ⊢
  have H1 := Lib.hid h1
  have H2 := Lib.hid h2
  clear h1 h2
  go_enter Try.func85, Try.ntmps85
  go_wp2
  refine wp_region_segs [([0, 1, 2, 3, 5, 6, 7, 8, 4], [6, 8]), ([9, 10, 11, 12], [])] (by kernel_rfl) (by kernel_rfl) ?_
  (simp only [wpSegs, pick, Array.getD_eq_getD_getElem?, List.getElem?_toArray, List.getElem?_cons_succ, List.getElem?_cons_zero, Option.getD_some])
  go_wp2_with fail
  refine (H1.out _).mono ?_
  rintro e w' ⟨rfl, rfl⟩
  go_wp2
  refine Mid.intro ⟨⟨again_cell (T := 3) rfl rfl rfl Try.underlying3 rfl (by simp [go_sem]) rfl, again_cell (T := 3) rfl rfl rfl Try.underlying3 rfl (by simp [go_sem]) rfl, trivial⟩, ?_⟩
  go_wp2_with fail
  refine (H2.out _).mono ?_
  rintro e w' ⟨rfl, rfl⟩
  go_wp2_with fail
  refine (or_calls (a := a) (b := b) ?hb).mono ?_
  case hb => (repeat (first | rw [if_pos (by omega)] | rw [if_neg (by omega)] | rw [hp_drew] | rw [hp_drewN] | rw [hp_alloc_size] | rw [hp_setCell_size] | rw [hp_alloc] | rw [hp_setCell] | rw [Option.map_some] | rw [upd_cells] | rw [List.set_cons_zero] | rw [List.set_cons_succ] | rfl))
  rintro e w' ⟨rfl, hf⟩
  have Hf := Lib.hid hf
  clear hf
  go_wp2
  refine Mid.intro ⟨trivial, Strict.intro rfl ?_⟩
  go_wp2
  go_ret
  exact ⟨rfl, Fr.trans0 (by (repeat (first | exact Fr.refl _ _ | assumption | apply Fr.drewN | apply Fr.drew | apply Fr.alloc | refine Fr.setCell ?_ (Or.inr (by simp; try omega)) _))) Hf.out⟩
end Go.Proofs.Ytppmnmheodimoaa
end

section
/- Neighbourhoods: Right, Radius. -/
namespace Go.Proofs.Ytppmnmheodimoaa
open Go Go.RowKit Go.Proofs.Rg Go.Proofs.Hp Go.Proofs.Ev
set_option linter.unusedVariables false
set_option linter.unusedSimpArgs false
theorem ret_bool' {a b : Bool} (h : a = b) : Ending.returned (.bool a) = Ending.returned (.bool b) := by rw [h]
theorem hoodAt_zero {l : List (Int × Int)} {x y : Int} (h : l[0]? = some (x, y)) : hoodAt l 0 = decide (-2 ≤ x ∧ x ≤ 2 ∧ -2 ≤ y ∧ y ≤ 2) := by
  unfold hoodAt near2
  rw [List.getD_eq_getElem?_getD, h]
  simp
theorem hoodAt_succ {l : List (Int × Int)} {k : Nat} {x y : Int} {q : Int × Int} (h : l[k + 1]? = some (x, y)) (h' : l[k]? = some q) : hoodAt l (k + 1) = (decide (-2 ≤ x ∧ x ≤ 2 ∧ -2 ≤ y ∧ y ≤ 2) && before q (x, y)) := by
  unfold hoodAt near2
  rw [List.getD_eq_getElem?_getD, h, Nat.add_sub_cancel, List.getD_eq_getElem?_getD, h']
  simp
theorem hoodR_false {l : List (Int × Int)} {k : Nat} (hk : k < l.length) (h : hoodAt l k = false) : hoodR l = false := by
  unfold hoodR
  have : (List.range l.length).all (hoodAt l) = false := by
    rw [List.all_eq_false]
    exact ⟨k, List.mem_range.2 hk, by rw [h]; simp⟩
  rw [this, Bool.and_false]
theorem hoodR_true {l : List (Int × Int)} (h1 : 1 ≤ l.length) (h2 : l.length ≤ 25) (h : ∀ k, k < l.length → hoodAt l k = true) : hoodR l = true := by
  unfold hoodR
  rw [decide_eq_true h1, decide_eq_true h2, Bool.true_and, Bool.true_and, List.all_eq_true]
  exact fun k hk => h k (List.mem_range.1 hk)
theorem hoodR_len {l : List (Int × Int)} (h : ¬ (1 ≤ l.length ∧ l.length ≤ 25)) : hoodR l = false := by
  unfold hoodR
  by_cases h1 : 1 ≤ l.length
  · rw [decide_eq_false (show ¬ l.length ≤ 25 from fun h2 => h ⟨h1, h2⟩), Bool.and_false, Bool.false_and]
  · rw [decide_eq_false h1, Bool.false_and, Bool.false_and]
set_option maxHeartbeats 4000000 in
theorem HRight_calls {w : World} {l : List (Int × Int)} {a : Option Addr} {c : Nat} (hl : PtsAt w (.slice a l.length c) l) (hlen : l.length ≤ 1000000) :
    Calls Try.prog 62 #[.slice a l.length c] w fun e w' => e = .returned (.bool (hoodR l)) ∧ Fr [] w w' := by
  have Hl := Lib.hid hl
  clear hl
  by_cases h1 : 1 ≤ l.length ∧ l.length ≤ 25
  · obtain ⟨h1, h2⟩ := h1
    go_enter Try.func62, Try.ntmps62
    go_wp2
    go_loopw [15] (fun x wr => ∃ k : Nat, x = .int .i64 k ∧ k ≤ l.length ∧ (∀ j, j < k → hoodAt l j = true) ∧ Fr [] w wr) (fun x _ => l.length - (intOf x).toNat)
    case atStart => exact ⟨0, rfl, by omega, by omega, Fr.refl _ _⟩
    case round =>
      obtain ⟨k, rfl, hk, hn, hf⟩ := hrel
      have Hk := Lib.hid hn
      have Hf := Lib.hid hf
      clear hn hf
      by_cases hlt : k < l.length
      · obtain ⟨⟨x, y⟩, hp⟩ : ∃ p, l[k]? = some p := ⟨_, List.getElem?_eq_getElem hlt⟩
        obtain ⟨g, off, rfl, hg, e0, e1⟩ := (Hl.out.fr Hf.out).cell hp
        simp only at e0 e1
        cases k with
        | zero =>
          have HA := Lib.hid (hoodAt_zero hp)
          clear hp
          simp only [Nat.zero_mul, Nat.add_zero] at e0 e1
          go_wp2
          (refine wp_region_text (by kernel_rfl) (by kernel_rfl) ?_)
          go_wp2
          all_goals
            refine Strict.intro rfl ?_
            go_wp2
            first
              | (go_ret; exact ⟨ret_bool' (hoodR_false hlt (HA.out.trans (by simp; try omega))).symm, by first | (have := Hf.out; (repeat (first | exact Fr.refl _ _ | assumption | apply Fr.drewN | apply Fr.drew | apply Fr.alloc | refine Fr.setCell ?_ (Or.inr (by simp; try omega)) _)); done) | exact Fr.trans0 (by have := Hf.out; (repeat (first | exact Fr.refl _ _ | assumption | apply Fr.drewN | apply Fr.drew | apply Fr.alloc | refine Fr.setCell ?_ (Or.inr (by simp; try omega)) _))) Hf1.out⟩)
              | (go_roundw
                 case rel =>
                   refine ⟨0 + 1, by go_num, by omega, fun j hj => ?_, by first | (have := Hf.out; (repeat (first | exact Fr.refl _ _ | assumption | apply Fr.drewN | apply Fr.drew | apply Fr.alloc | refine Fr.setCell ?_ (Or.inr (by simp; try omega)) _)); done) | exact Fr.trans0 (by have := Hf.out; (repeat (first | exact Fr.refl _ _ | assumption | apply Fr.drewN | apply Fr.drew | apply Fr.alloc | refine Fr.setCell ?_ (Or.inr (by simp; try omega)) _))) Hf1.out⟩
                   rcases Nat.lt_or_ge j (0) with h | h
                   · exact Hk.out j h
                   · obtain rfl : j = 0 := by omega
                     exact HA.out.trans (by simp; try omega)
                 case measure => simp [intOf]; omega)
        | succ k =>
          obtain ⟨⟨u, v⟩, hq⟩ : ∃ p, l[k]? = some p := ⟨_, List.getElem?_eq_getElem (by omega)⟩
          obtain ⟨g', off', he, _, e2, e3⟩ := (Hl.out.fr Hf.out).cell hq
          cases he
          simp only at e2 e3
          have ha := hoodAt_succ hp hq
          have hb := cmpP_before (u, v) (x, y)
          have hc := fun w => cmpP_calls (p := (u, v)) (q := (x, y)) (w := w)
          simp only at hc
          generalize cmpP (u, v) (x, y) = z at hb hc
          generalize before (u, v) (x, y) = b at ha hb
          have HA := Lib.hid ha
          have HC := Lib.hid hc
          clear hp hq ha hc
          have hd : decide (0 ≤ z) = !b := hb
          clear hb
          cases b
          all_goals
            simp only [Bool.not_false, Bool.not_true] at hd
            go_wp2
            (refine wp_region_text (by kernel_rfl) (by kernel_rfl) ?_)
            go_wp2_with (refine (HC.out _).mono ?_; rintro e w1 ⟨rfl, hf⟩; have Hf1 := Lib.hid hf; clear hf)
            all_goals
              refine Strict.intro rfl ?_
              go_wp2
              first
                | (go_ret; exact ⟨ret_bool' (hoodR_false hlt (HA.out.trans (by simp; try omega))).symm, by first | (have := Hf.out; (repeat (first | exact Fr.refl _ _ | assumption | apply Fr.drewN | apply Fr.drew | apply Fr.alloc | refine Fr.setCell ?_ (Or.inr (by simp; try omega)) _)); done) | exact Fr.trans0 (by have := Hf.out; (repeat (first | exact Fr.refl _ _ | assumption | apply Fr.drewN | apply Fr.drew | apply Fr.alloc | refine Fr.setCell ?_ (Or.inr (by simp; try omega)) _))) Hf1.out⟩)
                | (go_roundw
                   case rel =>
                     refine ⟨(k + 1) + 1, by go_num, by omega, fun j hj => ?_, by first | (have := Hf.out; (repeat (first | exact Fr.refl _ _ | assumption | apply Fr.drewN | apply Fr.drew | apply Fr.alloc | refine Fr.setCell ?_ (Or.inr (by simp; try omega)) _)); done) | exact Fr.trans0 (by have := Hf.out; (repeat (first | exact Fr.refl _ _ | assumption | apply Fr.drewN | apply Fr.drew | apply Fr.alloc | refine Fr.setCell ?_ (Or.inr (by simp; try omega)) _))) Hf1.out⟩
                     rcases Nat.lt_or_ge j ((k + 1)) with h | h
                     · exact Hk.out j h
                     · obtain rfl : j = (k + 1) := by omega
                       exact HA.out.trans (by simp; try omega)
                   case measure => simp [intOf]; omega)
      · obtain rfl : k = l.length := by omega
        go_wp2
        go_ret
        exact ⟨ret_bool' (hoodR_true h1 h2 Hk.out).symm, Hf.out⟩
  · rw [hoodR_len h1]
    have h2 : l.length = 0 ∨ 25 < l.length := by omega
    clear h1
    rcases h2 with h | h
    · go_enter Try.func62, Try.ntmps62
      go_wp2
      go_ret
      exact ⟨rfl, by (repeat (first | exact Fr.refl _ _ | assumption | apply Fr.drewN | apply Fr.drew | apply Fr.alloc | refine Fr.setCell ?_ (Or.inr (by simp; try omega)) _))⟩
    · go_enter Try.func62, Try.ntmps62
      go_wp2
      go_ret
      exact ⟨rfl, by (repeat (first | exact Fr.refl _ _ | assumption | apply Fr.drewN | apply Fr.drew | apply Fr.alloc | refine Fr.setCell ?_ (Or.inr (by simp; try omega)) _))⟩
end Go.Proofs.Ytppmnmheodimoaa
end
