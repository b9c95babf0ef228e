/- Own texts of this claim, part 28: no condition. -/
import Derived.IntWalk
import Derived.Deep.RegionHeld3
import Derived.Deep.DeepCutAuto
import Derived.Test.YtdanghnadbkhfaaZF26
import Derived.Test.YtdanghnadbkhfaaZF5
import Derived.Test.YtdanghnadbkhfaaZF15
set_option linter.unusedVariables false
set_option linter.unusedSimpArgs false
section
/- The reference's store of layer 25: Load. -/
namespace Go.Proofs.Ytdanghnadbkhfaa
set_option linter.unusedVariables false
set_option linter.unusedSimpArgs false
open Go Go.RowKit Go.Proofs.Rg Go.Proofs.Mp Go.Proofs.Hp Go.Proofs.Qs
/-- the reference's store: one block with the number of states and the nodes -/
structure RefIn (w : World) (b : Nat) (s : Int) (ns : List K4) (nv : Value) : Prop where
  blk : w.heap[b]? = some (.cells #[.int .i64 s, nv] 145 (0, 0))
  nodes : w.ownsRow 0 136 4 nv ns.length (flat ns)
  ne : nv.ownBlock ≠ some b
def RefAt (w : World) (b : Nat) (s : Int) (ns : List K4) (F : List Nat) : Prop := GoodQ s ns ∧ ∃ nv, RefIn w b s ns nv ∧ F = b :: nv.ownBlock.toList
theorem RefAt.keep {w w' : World} {b : Nat} {s : Int} {ns : List K4} {F : List Nat} (h : RefAt w b s ns F) (hk : ∀ x ∈ F, w'.heap[x]? = w.heap[x]?) : RefAt w' b s ns F := by
  obtain ⟨hg, nv, hI, rfl⟩ := h
  exact ⟨hg, nv, ⟨(hk b (by simp)).trans hI.blk, owns_of_block hI.nodes fun g hg => hk g (by simp [hg]), hI.ne⟩, rfl⟩
theorem RefAt.lt {w : World} {b : Nat} {s : Int} {ns : List K4} {F : List Nat} (h : RefAt w b s ns F) : ∀ x ∈ F, x < w.heap.size := by
  obtain ⟨_, nv, hI, rfl⟩ := h
  intro x hx
  simp only [List.mem_cons, Option.mem_toList] at hx
  rcases hx with rfl | hx
  · exact lt_of_block hI.blk
  · exact owns_lt hI.nodes hx
theorem RefAt.fr {w w' : World} {b : Nat} {s : Int} {ns : List K4} {F G : List Nat} (h : RefAt w b s ns F) (hf : Fr G w w') (hd : ∀ x ∈ F, x ∉ G) : RefAt w' b s ns F := h.keep fun x hx => hf.block x (h.lt x hx) (hd x hx)
/-- what the reference's Load leaves -/
def RLoadPost (w : World) (s : Int) (ns : List K4) (e : Ending) (w' : World) : Prop :=
  (GoodQ s ns → ∃ b F, e = .returned (.tuple #[.pointer (some ⟨b, 0, none⟩), .int .i64 0]) ∧ RefAt w' b s ns F ∧ Fr [] w w' ∧ ∀ x ∈ F, w.heap.size ≤ x) ∧
  (¬ GoodQ s ns → e = .returned (.tuple #[.pointer none, .int .i64 2]) ∧ Fr [] w w')
set_option maxHeartbeats 4000000 in
theorem RLoad_calls {w : World} {s : Int} {ns : List K4} {v : Value} (hl : ns.length ≤ 90000) (hv : Reads w v ns.length 4 (flat ns)) :
    Calls Try.prog 50 #[.agg #[.int .i64 s, v]] w (RLoadPost w s ns) := by
  have hvk := hv
  obtain ⟨_, a, c, rfl, hav⟩ := hv
  have Hvk := Lib.hid hvk
  have Hl := Lib.hid hl
  clear hav hvk hl
  go_enter Try.func50, Try.ntmps50
  go_wp2_with fail
  have hbx : (w.alloc (.cells #[.int .i64 s, .slice a ns.length c] 56)).heap[w.heap.size]? = some (.cells #[.int .i64 s, .slice a ns.length c] 56 (0, 0)) := by (repeat (first | rw [if_pos (by omega)] | rw [if_neg (by omega)] | rw [hp_drew] | rw [hp_drewN] | rw [hp_alloc_size] | rw [hp_setCell_size] | rw [hp_alloc] | rw [hp_setCell] | rw [Option.map_some] | rw [upd_cells] | rw [List.set_cons_zero] | rw [List.set_cons_succ] | rfl))
  have hf0 : Fr [] w (w.alloc (.cells #[.int .i64 s, .slice a ns.length c] 56)) := by (repeat (first | exact Fr.refl _ _ | assumption | apply Fr.drewN | apply Fr.drew | apply Fr.alloc | refine Fr.setCell ?_ (Or.inr (by simp; try omega)) _))
  generalize w.alloc (.cells #[.int .i64 s, .slice a ns.length c] 56) = w0 at *
  refine (R25Right_calls (by have := Hl.out; omega) (Hvk.out.fr hf0)).mono ?_
  rintro e w1 ⟨rfl, hf1⟩
  have hb1 := (hf1.block _ (lt_of_block hbx) (by simp)).trans hbx
  have c0 := heap_eq_cell hb1 0
  have c1 := heap_eq_cell hb1 1
  simp at c0 c1
  have Hf1 := Lib.hid (hf0.trans0 hf1)
  clear hb1 hbx hf0 hf1
  by_cases hg : GoodQ s ns
  · rw [decide_eq_true hg]
    have Hg := Lib.hid hg
    clear hg
    go_wp2_with fail
    refine (copied_ref (by have := Hl.out; omega) (Hvk.out.fr Hf1.out)).mono ?_
    rintro e w2 ⟨v, rfl, ho, hf2⟩
    obtain ⟨va, vc, rfl, _⟩ := owns_form ho
    have Ho := Lib.hid ho
    have Hf2 := Lib.hid hf2
    clear ho hf2
    go_wp2
    go_ret2
    refine ⟨fun _ => ⟨w2.heap.size, w2.heap.size :: (Value.slice va ns.length vc).ownBlock.toList, rfl, ⟨Hg.out, _, ⟨by (repeat (first | rw [if_pos (by omega)] | rw [if_neg (by omega)] | rw [hp_drew] | rw [hp_drewN] | rw [hp_alloc_size] | rw [hp_setCell_size] | rw [hp_alloc] | rw [hp_setCell] | rw [Option.map_some] | rw [upd_cells] | rw [List.set_cons_zero] | rw [List.set_cons_succ] | rfl)), ?_, ?_⟩, rfl⟩, (Hf1.out.trans0 Hf2.out).alloc _, ?_⟩, fun h => absurd Hg.out h⟩
    · exact owns_of_block (owns_base Ho.out (by omega)) fun x hx => heap_alloc_else _ _ _ (owns_lt Ho.out hx)
    · intro h
      have := owns_lt Ho.out h
      omega
    · intro x hx
      simp only [List.mem_cons, Option.mem_toList] at hx
      have h1 := Hf1.out.size
      have h2 := Hf2.out.size
      rcases hx with rfl | hx
      · omega
      · have := owns_ge Ho.out hx; omega
  · rw [decide_eq_false hg]
    have Hg := Lib.hid hg
    clear hg
    go_wp2
    go_ret2
    exact ⟨fun h => absurd h Hg.out, fun _ => ⟨rfl, Hf1.out⟩⟩
end Go.Proofs.Ytdanghnadbkhfaa
end

section
/- Law 26: loaded. -/
namespace Go.Proofs.Ytdanghnadbkhfaa
open Go Go.RowKit Go.Proofs.Rg Go.Proofs.Mp Go.Proofs.Hp Go.Proofs.Qs Go.Proofs.Ev
set_option linter.unusedVariables false
set_option linter.unusedSimpArgs false
/-- the reference's store as a thing -/
def refR (b : Nat) (s : Int) (ns : List K4) : Res where
  holds w F := RefAt w b s ns F
  keep := fun h hk => h.keep hk
  lt := fun h => h.lt
def LoadedPost (w : World) (s : Int) (ns : List K4) (e : Ending) (w' : World) : Prop :=
  (ns.length ≤ 100 ∧ GoodQ s ns → ∃ b r, e = .returned (.tuple #[.pointer (some ⟨b, 0, none⟩), .pointer (some ⟨r, 0, none⟩), .bool true]) ∧ Has w w' [storeR b s ns, refR r s ns]) ∧
  (¬ (ns.length ≤ 100 ∧ GoodQ s ns) → e = .returned (.tuple #[.pointer none, .pointer none, .bool false]) ∧ Fr [] w w')
set_option maxHeartbeats 4000000 in
theorem loaded_q {w : World} {s : Int} {ns : List K4} {v : Value} (hv : Reads w v ns.length 4 (flat ns)) :
    Calls Try.prog 22 #[.agg #[.int .i64 s, v]] w (LoadedPost w s ns) := by
  have hvk := hv
  obtain ⟨_, a, c, rfl, _⟩ := hv
  have Hv := Lib.hid hvk
  clear hvk
  by_cases hl : 100 < ns.length
  · have hd : decide ((100 : Int) < ↑ns.length) = true := by simp; omega
    have hd2 : decide (100 < ns.length) = true := by simpa using hl
    have Hl := Lib.hid hl
    clear hl
    go_enter Try.func22, Try.ntmps22
    go_wp2
    go_ret3
    exact ⟨fun h => by have := Hl.out; omega, fun _ => ⟨rfl, by (repeat (first | exact Fr.refl _ _ | assumption | apply Fr.drewN | apply Fr.drew | apply Fr.alloc | refine Fr.setCell ?_ (Or.inr (by simp; try omega)) _))⟩⟩
  have hd : decide ((100 : Int) < ↑ns.length) = false := by simp; omega
  have hd2 : decide (100 < ns.length) = false := by simpa using hl
  have Hl := Lib.hid hl
  clear hl
  by_cases hg : GoodQ s ns
  · have Hg := Lib.hid hg
    clear hg
    go_enter Try.func22, Try.ntmps22
    go_wp2_with fail
    refine (R25Right_calls (s := s) (by have := Hl.out; omega) (Hv.out.fr (by (repeat (first | exact Fr.refl _ _ | assumption | apply Fr.drewN | apply Fr.drew | apply Fr.alloc | refine Fr.setCell ?_ (Or.inr (by simp; try omega)) _))))).mono ?_
    rintro e w1 ⟨rfl, hf⟩
    rw [decide_eq_true Hg.out]
    have hb := (hf.block w.heap.size (by simp) (by simp)).trans (show _ = some (.cells #[.int .i64 s, .slice a ns.length c] 56 (0, 0)) by (repeat (first | rw [if_pos (by omega)] | rw [if_neg (by omega)] | rw [hp_drew] | rw [hp_drewN] | rw [hp_alloc_size] | rw [hp_setCell_size] | rw [hp_alloc] | rw [hp_setCell] | rw [Option.map_some] | rw [upd_cells] | rw [List.set_cons_zero] | rw [List.set_cons_succ] | rfl)))
    have c0 := heap_eq_cell hb 0
    have c1 := heap_eq_cell hb 1
    have hbl := lt_of_block hb
    have Hb := Lib.hid hb
    have Hf := Lib.hid (Fr.trans0 (by (repeat (first | exact Fr.refl _ _ | assumption | apply Fr.drewN | apply Fr.drew | apply Fr.alloc | refine Fr.setCell ?_ (Or.inr (by simp; try omega)) _)) : Fr [] w _) hf)
    clear hf hb
    go_wp2_with fail
    refine (Load_calls (s := s) (by have := Hl.out; omega) (Hv.out.fr Hf.out)).mono ?_
    rintro e w2 ⟨h1, _⟩
    obtain ⟨b, F, rfl, hS, hf, hF⟩ := h1 Hg.out
    have h2 : Has w w2 [storeR b s ns] := (Has.nil Hf.out).new hf hS hF
    have hb := (hf.block _ (lt_of_block Hb.out) (by simp)).trans Hb.out
    clear c0 c1 hbl
    have c0 := heap_eq_cell hb 0
    have c1 := heap_eq_cell hb 1
    have hbl := lt_of_block hb
    have H2 := Lib.hid h2
    clear h1 hS hf hF h2 hb
    go_wp2_with fail
    refine (RLoad_calls (s := s) (by have := Hl.out; omega) (Hv.out.fr H2.out.fr)).mono ?_
    rintro e w3 ⟨h1, _⟩
    obtain ⟨r, G, rfl, hR, hf, hG⟩ := h1 Hg.out
    have H3 := Lib.hid (show Has w w3 [refR r s ns, storeR b s ns] from H2.out.new hf hR hG)
    clear h1 hR hf hG c0 c1 hbl
    go_wp2
    go_ret3
    exact ⟨fun _ => ⟨b, r, rfl, H3.out.swap⟩, fun h => absurd ⟨by have := Hl.out; omega, Hg.out⟩ h⟩
  · have Hg := Lib.hid hg
    clear hg
    go_enter Try.func22, Try.ntmps22
    go_wp2_with fail
    refine (R25Right_calls (s := s) (by have := Hl.out; omega) (Hv.out.fr (by (repeat (first | exact Fr.refl _ _ | assumption | apply Fr.drewN | apply Fr.drew | apply Fr.alloc | refine Fr.setCell ?_ (Or.inr (by simp; try omega)) _))))).mono ?_
    rintro e w1 ⟨rfl, hf⟩
    rw [decide_eq_false Hg.out]
    have Hf := Lib.hid (Fr.trans0 (by (repeat (first | exact Fr.refl _ _ | assumption | apply Fr.drewN | apply Fr.drew | apply Fr.alloc | refine Fr.setCell ?_ (Or.inr (by simp; try omega)) _)) : Fr [] w _) hf)
    clear hf
    go_wp2
    go_ret3
    exact ⟨fun h => absurd h.2 Hg.out, fun _ => ⟨rfl, Hf.out⟩⟩
end Go.Proofs.Ytdanghnadbkhfaa
end

section
/- Law QuadmapFrames, walked. -/
namespace Go.Proofs.Ytdanghnadbkhfaa
open Go Go.RowKit Go.Proofs.Rg Go.Proofs.Mp Go.Proofs.Hp Go.Proofs.Qs Go.Proofs.Ev Go.Proofs.Bn Go.Proofs.Pt
set_option linter.unusedVariables false
set_option linter.unusedSimpArgs false
theorem zok_add {k f h u : Nat} (hu : f + h = u) (hf : f < 2 ^ k) (hh : h < 2 ^ k) (hk : k + 1 ≤ 2047) : Zok (u : Int) :=
  zok_lt (k := k + 1) (by rw [Nat.pow_succ]; omega) hk
theorem has_base {W W1 w : World} {Ps : List Res} (hf : Fr [] W W1) (h : Has W1 w Ps) : Has W w Ps := by
  obtain ⟨F, h1, h2, h3⟩ := h
  exact ⟨F, h1, hf.trans0 h2, fun x hx => Nat.le_trans hf.size (h3 x hx)⟩
theorem popQ_is {s : Int} {ns : List K4} (hg : GoodQ s ns) {n : Nat} {id : Int} {t : Tr} (hi : Is s ns n id t) : popQ s ns id = popT t := by
  unfold popQ
  rw [hi.lvl hg, if_neg (by omega), hi.2.1]
theorem knownQ_is {s : Int} {ns : List K4} (hg : GoodQ s ns) {n : Nat} {id : Int} {t : Tr} (hi : Is s ns n id t) : knownQ s ns id = 0 := by
  unfold knownQ
  rw [hi.lvl hg, if_neg (by omega)]
theorem frQ_is {s : Int} {ns : List K4} (hg : GoodQ s ns) {n : Nat} {id : Int} {t : Tr} (hi : Is s ns n id t) : frQ s ns id = frT n t := by
  unfold frQ
  rw [hi.lvl hg, if_neg (by omega), hi.2.1, full_ht n hi.2.2.1]
theorem radd_in {w : World} {x : BV} {H U : Nat} {ha : Option Addr} {hc : Nat} (hx : BvIn w x) (hh : BigIn w false (zd (H : Int)) ha hc) (hU : x.1 + H = U) (zx : Zok (x.1 : Int)) (zh : Zok (H : Int)) (zu : Zok (U : Int)) :
    Calls Try.prog 24 #[bvV x, .agg #[.bool false, .slice ha (zd (H : Int)).length hc]] w fun e w' => ∃ a c, e = .returned (.tuple #[.agg #[.bool false, .slice a (zd (U : Int)).length c], .int .i64 0]) ∧ (BigIn w' false (zd (U : Int)) a c ∧ ∀ g, (Value.slice a (zd (U : Int)).length c).ownBlock = some g → w.heap.size ≤ g) ∧ Fr [] w w' := by
  refine (RAdd_z (in_z' hx) (in_z hh) zx zh (by rw [← Int.natCast_add, hU]; exact zu)).mono ?_
  rw [← Int.natCast_add, hU]
  rintro e w' ⟨v, rfl, ⟨a, c, rfl, h1, h2, h3⟩, hf⟩
  refine ⟨a, c, ?_, ⟨⟨h3, zd_dig _, h1, ?_⟩, h2⟩, hf⟩
  · rw [show decide (((U : Nat) : Int) < 0) = false by simp]
  · have := zd_len zu; omega
set_option maxHeartbeats 16000000 in
set_option maxRecDepth 100000 in
theorem QuadmapFrames_calls {W : World} {s : Int} {ns : List K4} {a : Option Addr} {c : Nat} (hv : Reads W (.slice a ns.length c) ns.length 4 (flat ns)) (id : Int) :
    Calls Try.prog 6 #[.agg #[.int .i64 s, .slice a ns.length c], .int .i64 id] W fun e w' => e = .returned (.bool true) ∧ Fr [] W w' := by
  have HLD := Lib.hid (fun w1 (hf : Fr [] W w1) => loaded_q (s := s) (hv.fr hf))
  clear hv
  by_cases hok : ns.length ≤ 100 ∧ GoodQ s ns
  case neg =>
    have Hok := Lib.hid hok
    clear hok
    go_enter Try.func6, Try.ntmps6
    go_wp2_with fail
    refine (HLD.out _ (by (repeat (first | exact Fr.refl _ _ | assumption | apply Fr.drewN | apply Fr.drew | apply Fr.alloc | refine Fr.setCell ?_ (Or.inr (by simp; try omega)) _)))).mono ?_
    rintro e w1 ⟨_, h1⟩
    obtain ⟨rfl, hf1⟩ := h1 Hok.out
    have Hf1 := Lib.hid (Fr.trans0 (by (repeat (first | exact Fr.refl _ _ | assumption | apply Fr.drewN | apply Fr.drew | apply Fr.alloc | refine Fr.setCell ?_ (Or.inr (by simp; try omega)) _)) : Fr [] W _) hf1)
    clear h1 hf1
    go_wp2_with fail
    refine (awake_q _).mono ?_
    rintro e w9 ⟨rfl, hf9⟩
    have Hf9 := Lib.hid (Hf1.out.trans0 (Fr.trans0 (by (repeat (first | exact Fr.refl _ _ | assumption | apply Fr.drewN | apply Fr.drew | apply Fr.alloc | refine Fr.setCell ?_ (Or.inr (by simp; try omega)) _))) hf9))
    clear hf9
    go_wp2
    go_ret
    exact ⟨rfl, Hf9.out⟩
  obtain ⟨hlen, hg⟩ := hok
  have Hok := Lib.hid (And.intro hlen hg)
  obtain ⟨l, hl⟩ : ∃ l, lvl s (levs s ns) id = l := ⟨_, rfl⟩
  have HL1 := Lib.hid hl
  by_cases hl1 : l < 1
  · have hd1 : decide (l < 1) = true := by simpa using hl1
    clear hl hl1 hlen hg
    go_enter Try.func6, Try.ntmps6
    go_wp2_with fail
    refine (HLD.out _ (by (repeat (first | exact Fr.refl _ _ | assumption | apply Fr.drewN | apply Fr.drew | apply Fr.alloc | refine Fr.setCell ?_ (Or.inr (by simp; try omega)) _)))).mono ?_
    rintro e w1 ⟨h1, _⟩
    obtain ⟨b, r, rfl, h9⟩ := h1 Hok.out
    have H1 := Lib.hid (has_base (W := W) (by (repeat (first | exact Fr.refl _ _ | assumption | apply Fr.drewN | apply Fr.drew | apply Fr.alloc | refine Fr.setCell ?_ (Or.inr (by simp; try omega)) _))) h9)
    clear h1 h9
    go_wp2_with fail
    refine (Level_has H1.out id).mono ?_
    rw [HL1.out]
    rintro e w2 ⟨rfl, h2, _⟩
    have H1 := Lib.hid h2
    clear h2
    go_wp2_with fail
    refine (awake_q _).mono ?_
    rintro e w9 ⟨rfl, hf9⟩
    have Hf9 := Lib.hid (H1.out.fr.trans0 (Fr.trans0 (by (repeat (first | exact Fr.refl _ _ | assumption | apply Fr.drewN | apply Fr.drew | apply Fr.alloc | refine Fr.setCell ?_ (Or.inr (by simp; try omega)) _))) hf9))
    clear hf9
    go_wp2
    go_ret
    exact ⟨rfl, Hf9.out⟩
  have hd1 : decide (l < 1) = false := by simpa using hl1
  by_cases hl2 : 256 ≤ l
  · have hd2 : decide (l ≥ 256) = true := by simpa using hl2
    clear hl hl1 hl2 hlen hg
    go_enter Try.func6, Try.ntmps6
    go_wp2_with fail
    refine (HLD.out _ (by (repeat (first | exact Fr.refl _ _ | assumption | apply Fr.drewN | apply Fr.drew | apply Fr.alloc | refine Fr.setCell ?_ (Or.inr (by simp; try omega)) _)))).mono ?_
    rintro e w1 ⟨h1, _⟩
    obtain ⟨b, r, rfl, h9⟩ := h1 Hok.out
    have H1 := Lib.hid (has_base (W := W) (by (repeat (first | exact Fr.refl _ _ | assumption | apply Fr.drewN | apply Fr.drew | apply Fr.alloc | refine Fr.setCell ?_ (Or.inr (by simp; try omega)) _))) h9)
    clear h1 h9
    go_wp2_with fail
    refine (Level_has H1.out id).mono ?_
    rw [HL1.out]
    rintro e w2 ⟨rfl, h2, _⟩
    have H1 := Lib.hid h2
    clear h2
    go_wp2_with fail
    refine (Level_has H1.out id).mono ?_
    rw [HL1.out]
    rintro e w2 ⟨rfl, h2, _⟩
    have H1 := Lib.hid h2
    clear h2
    go_wp2_with fail
    refine (awake_q _).mono ?_
    rintro e w9 ⟨rfl, hf9⟩
    have Hf9 := Lib.hid (H1.out.fr.trans0 (Fr.trans0 (by (repeat (first | exact Fr.refl _ _ | assumption | apply Fr.drewN | apply Fr.drew | apply Fr.alloc | refine Fr.setCell ?_ (Or.inr (by simp; try omega)) _))) hf9))
    clear hf9
    go_wp2
    go_ret
    exact ⟨rfl, Hf9.out⟩
  have hd2 : decide (l ≥ 256) = false := by simpa using hl2
  obtain ⟨m0, hm, hm256, hi⟩ := level_nat hg (id := id) (by omega)
  obtain ⟨n, rfl⟩ : ∃ n, m0 = n + 1 := ⟨m0 - 1, by omega⟩
  have hn255 : n + 1 ≤ 255 := by omega
  obtain ⟨t, ht⟩ : ∃ t, tr s ns id = t := ⟨_, rfl⟩
  rw [ht] at hi
  obtain ⟨x, ms, hex, gx, px, lx, ix⟩ := expand_ok hg (by omega) hi (by omega)
  obtain ⟨m', hce, gc, pc, lc⟩ := centre_ok gx (by omega) (hi.grow px) ix (by omega)
  have hid := hi.grow (px.trans pc)
  have hix := ix.grow pc
  have hfull := hi.2.2.1
  have hpop : popT (expT n t) = popT t := pop_exp hfull
  have hfr : frT (n + 2) (expT n t) = movF (frT (n + 1) t) ((2 ^ n : Nat) : Int) := fr_exp hfull
  have hany := fr_pop hfull
  have hin := frT_in (n := n + 1) (t := t)
  have HPQ := Lib.hid (And.intro (popQ_is gc hid) (And.intro (popQ_is gc hix) (And.intro (frQ_is gc hid) (And.intro (frQ_is gc hix) (And.intro (knownQ_is gc hid) (knownQ_is gc hix))))))
  rw [hpop, hfr] at HPQ
  have HANY := Lib.hid hany
  have HIN := Lib.hid hin
  have HFULL := Lib.hid hfull
  have HX := Lib.hid (fun b0 w1 Qs (h1 : Has W w1 (storeR b0 s ns :: Qs)) => hex ▸ Expand_q h1 id)
  have HCE := Lib.hid (fun b0 w1 Qs (h1 : Has W w1 (storeR b0 s ms :: Qs)) => hce ▸ Centre_q h1 x)
  have HLI := Lib.hid (fun b0 w1 Qs (h1 : Has W w1 (storeR b0 s m' :: Qs)) => LevelIs_has h1 hid)
  obtain ⟨V, hV⟩ : ∃ V, popT t = V := ⟨_, rfl⟩
  rw [hV] at HPQ HANY
  have hVz : Zok (V : Int) := by rw [← hV]; exact pop_zok (n := n + 1) (by omega) hfull
  have HVZ := Lib.hid hVz
  clear hl hl1 hl2 hlen hg hm hm256 hi ht hex gx px lx ix hce gc pc lc hid hix hfull hpop hfr hany hin hV hVz
  go_enter Try.func6, Try.ntmps6
  go_wp2_with fail
  refine (HLD.out _ (by (repeat (first | exact Fr.refl _ _ | assumption | apply Fr.drewN | apply Fr.drew | apply Fr.alloc | refine Fr.setCell ?_ (Or.inr (by simp; try omega)) _)))).mono ?_
  rintro e w1 ⟨h1, _⟩
  obtain ⟨b, r, rfl, h9⟩ := h1 Hok.out
  have H1 := Lib.hid (has_base (W := W) (by (repeat (first | exact Fr.refl _ _ | assumption | apply Fr.drewN | apply Fr.drew | apply Fr.alloc | refine Fr.setCell ?_ (Or.inr (by simp; try omega)) _))) h9)
  clear h1 h9
  go_wp2_with fail
  refine (Level_has H1.out id).mono ?_
  rw [HL1.out]
  rintro e w2 ⟨rfl, h2, _⟩
  have H1 := Lib.hid h2
  clear h2
  go_wp2_with fail
  refine (Level_has H1.out id).mono ?_
  rw [HL1.out]
  rintro e w2 ⟨rfl, h2, _⟩
  have H1 := Lib.hid h2
  clear h2
  go_wp2_with fail
  refine (HX.out _ _ _ H1.out).mono ?_
  rintro e w2 ⟨rfl, h2⟩
  have H2 := Lib.hid h2
  clear h2 H1
  go_wp2_with fail
  refine (HCE.out _ _ _ H2.out).mono ?_
  rintro e w3 ⟨rfl, h3⟩
  have HP1 := Lib.hid (Population_q h3 id)
  rw [HPQ.out.1, HPQ.out.2.2.2.2.1] at HP1
  clear h3 H2
  go_wp2_with fail
  refine HP1.out.mono ?_
  rintro e w4 ⟨a4, c4, rfl, h4⟩
  have h5 := (has_alloc h4 #[.bool false, .slice a4 (zd (V : Int)).length c4] 38).swap
  obtain ⟨x12, hx12⟩ : ∃ x, w4.heap.size = x := ⟨_, rfl⟩
  rw [hx12] at h5
  have HP2 := Lib.hid (Population_q h5 x)
  rw [HPQ.out.2.1, HPQ.out.2.2.2.2.2] at HP2
  clear HP1 h4 h5
  simp only [bvV]
  go_wp2_with fail
  refine HP2.out.mono ?_
  rintro e w5 ⟨a5, c5, rfl, h6⟩
  have h7 := (has_alloc h6 #[.bool false, .slice a5 (zd (V : Int)).length c5] 38).swap
  obtain ⟨x14, hx14⟩ : ∃ x, w5.heap.size = x := ⟨_, rfl⟩
  rw [hx14] at h7
  have HB1 := Lib.hid (Bounds_q h7 id)
  clear HP2 h6 h7 hx12
  simp only [bvV]
  go_wp2_with fail
  refine HB1.out.mono ?_
  unfold BoundsPost
  rintro e w6 ⟨⟨okf, f0, f1, f2, f3⟩, L1, rfl, h8, hf1, hin1⟩
  rw [HPQ.out.2.2.1] at hf1
  rw [HPQ.out.2.2.2.2.1]
  have h9 := (has_alloc h8 (lcells (okf, f0, f1, f2, f3)) 49).swap
  obtain ⟨x16, hx16⟩ : ∃ x, w6.heap.size = x := ⟨_, rfl⟩
  rw [hx16] at h9
  have HB2 := Lib.hid (Bounds_q h9 x)
  have HF1 := Lib.hid (And.intro hf1 hin1)
  clear HB1 h8 h9 hf1 hin1 hx14
  simp only [lcells] at HB2 ⊢
  go_wp2_with fail
  refine HB2.out.mono ?_
  unfold BoundsPost
  rintro e w7 ⟨⟨okg, g0, g1, g2, g3⟩, L2, rfl, h10, hf2, hin2⟩
  rw [HPQ.out.2.2.2.1] at hf2
  rw [HPQ.out.2.2.2.2.2]
  have h11 := (has_alloc h10 (lcells (okg, g0, g1, g2, g3)) 49).swap
  obtain ⟨x19, hx19⟩ : ∃ x, w7.heap.size = x := ⟨_, rfl⟩
  rw [hx19] at h11
  have HF2 := Lib.hid (And.intro hf2 hin2)
  have H11 := Lib.hid h11
  obtain rfl : okg = okf := by
    have e1 := HF1.out.1.1
    have e2 := hf2.1
    simp only at e1 e2
    rw [e1, e2]; unfold movF; simp
  clear HB2 h10 h11 hf2 hin2 hx16
  simp only [lcells] at H11 ⊢
  have hb12 := H11.out.ord 10 [7]
  simp only [List.filterMap_cons, List.filterMap_nil, List.getElem?_cons_zero, List.getElem?_cons_succ, List.drop_succ_cons, List.drop_zero, List.cons_append, List.nil_append] at hb12
  have hb12 := hb12.blk
  have n0 := heap_eq_cell hb12 0
  have n1 := heap_eq_cell hb12 1
  have nl := lt_of_block hb12
  have hb14 := H11.out.ord 10 [5]
  simp only [List.filterMap_cons, List.filterMap_nil, List.getElem?_cons_zero, List.getElem?_cons_succ, List.drop_succ_cons, List.drop_zero, List.cons_append, List.nil_append] at hb14
  have hb14 := hb14.blk
  have m0 := heap_eq_cell hb14 0
  have m1 := heap_eq_cell hb14 1
  have ml := lt_of_block hb14
  have HEQ := Lib.hid (equal_n (x := (V, a4, c4)) (y := (V, a5, c5)) (big_mem H11.out (by simp)) (big_mem H11.out (by simp)) HVZ.out)
  simp only [bvV, decide_true] at HEQ
  clear hb12 hb14
  go_wp2_with fail
  refine HEQ.out.mono ?_
  rintro e w8 ⟨rfl, hf8⟩
  have H12 := Lib.hid (H11.out.step hf8)
  clear hf8 n0 n1 nl m0 m1 ml HEQ
  go_wp2_with fail
  refine (RFrom_z (x := 1) (by omega) (by omega)).mono ?_
  rintro e w9 ⟨v1, rfl, hb1, hf9⟩
  have H13 := Lib.hid (H12.out.step hf9)
  have HV1 := Lib.hid (hb1.mono (fun _ _ => trivial) : BigZ _ (fun _ => True) _ _)
  clear hb1 hf9
  go_wp2_with fail
  refine (HLI.out _ _ _ H13.out).mono ?_
  rintro e w10 ⟨rfl, h14, hf10⟩
  have H14 := Lib.hid h14
  have HV2 := Lib.hid (HV1.out.fr0 hf10)
  clear h14 hf10
  have hw1 : wrap64 ((n : Int) + 1 - 1) = n := by rw [w64 (by omega) (by omega)]; omega
  have hw2 : wrap64 (((n + 1 : Nat) : Int) - 1) = n := by rw [w64 (by omega) (by omega)]; omega
  have hw3 : IntKind.i64.wrap ((n : Int) + 1 - 1) = n := by rw [Int.add_sub_cancel]; exact IntWalk.i64_in _ (by omega)
  go_wp2_with fail
  refine (RShift_z HV2.out (by omega)).mono ?_
  rintro e w11 ⟨v2, rfl, hb2, hf11⟩
  obtain ⟨ha, hc, rfl, h15⟩ := has_big H14.out hf11 hb2 (zok_pow (by omega))
  obtain ⟨H, hH⟩ : ∃ H, 2 ^ n = H := ⟨_, rfl⟩
  rw [hH] at h15 ⊢
  rw [show decide (((H : Nat) : Int) < 0) = false by simp] at h15 ⊢
  have h16 := (has_alloc h15 #[.bool false, .slice ha (zd (H : Int)).length hc] 38).ord 3 [2, 0, 1]
  simp only [List.filterMap_cons, List.filterMap_nil, List.getElem?_cons_zero, List.getElem?_cons_succ, List.drop_succ_cons, List.drop_zero, List.cons_append, List.nil_append] at h16
  obtain ⟨x22, hx22⟩ : ∃ x, w11.heap.size = x := ⟨_, rfl⟩
  rw [hx22] at h16
  have H16 := Lib.hid h16
  have HH := Lib.hid hH
  clear h15 h16 hb2 hf11 hw1 hw2 hw3 H12 H13 H14
  go_wp2
  have HAL := Lib.hid (show okg = decide ((zd (V : Int)).length > 0) by
    have h1 := HF1.out.1.1
    simp only at h1
    rw [h1, Bool.eq_iff_iff, HANY.out, decide_eq_true_eq]
    have h2 := zd_nil (V := V)
    have h3 := List.length_pos_iff (l := zd (V : Int))
    constructor
    · intro h; exact h3.2 fun e => by have := h2.1 e; omega
    · intro h; have h4 := h3.1 h; exact Nat.pos_of_ne_zero fun e => h4 (h2.2 e))
  have HUZ : Hid (okg = true → ((f0.1 + H = g0.1 ∧ f1.1 + H = g1.1 ∧ f2.1 + H = g2.1 ∧ f3.1 + H = g3.1) ∧ (f0.1 < 2 ^ 256 ∧ f1.1 < 2 ^ 256 ∧ f2.1 < 2 ^ 256 ∧ f3.1 < 2 ^ 256) ∧ H < 2 ^ 256)) := Lib.hid (by
    intro hk
    subst hk
    have h1 := HF1.out.1
    have h2 := HF2.out.1
    have h3 := HIN.out
    cases hfr : frT (n + 1) t with
    | none => rw [hfr] at h1; have := h1.1; simp at this
    | some F =>
      rw [hfr] at h1 h2
      have h4 := h3 F hfr
      simp only [FrOk, coF, movF, Option.map_some, Option.getD_some] at h1 h2
      rw [HH.out] at h2
      simp only [inF] at h4
      have h5 : 2 ^ (n + 1) ≤ 2 ^ 256 := Nat.pow_le_pow_right (by omega) (by omega)
      have h6 : 2 ^ (n + 1) = H + H := by rw [Nat.pow_succ, HH.out]; omega
      rw [h6] at h4 h5
      omega)
  go_loopw [24] (fun x wr => ∃ z : Int, x = .int .i64 z ∧ At5 (fun c => Has W wr [storeR b s m', Hp.blk x22 (.cells #[.bool false, .slice ha (zd (H : Int)).length hc] 38 (0, 0)), bigR false (zd (H : Int)) ha hc, Hp.blk x19 (.cells (lcells (okg, g0, g1, g2, g3)) 49 (0, 0)), poolR L2, Hp.blk x16 (.cells (lcells (okg, f0, f1, f2, f3)) 49 (0, 0)), poolR L1, Hp.blk x14 (.cells #[.bool false, .slice a5 (zd (V : Int)).length c5] 38 (0, 0)), bigR false (zd (V : Int)) a5 c5, Hp.blk x12 (.cells #[.bool false, .slice a4 (zd (V : Int)).length c4] 38 (0, 0)), bigR false (zd (V : Int)) a4 c4, refR r s ns]) z) (fun x _ => 4 - (intOf x).toNat)
  case atStart => exact ⟨0, rfl, .inl ⟨rfl, H16.out⟩⟩
  case round =>
    clear H16 H11 hx19 hx22
    obtain ⟨z, rfl, hz⟩ := hrel
    rcases hz with ⟨rfl, hz⟩ | ⟨rfl, hz⟩ | ⟨rfl, hz⟩ | ⟨rfl, hz⟩ | ⟨rfl, hz⟩
    · cases okg with
      | false =>
        have hb := hz.ord 12 [9]
        simp only [List.filterMap_cons, List.filterMap_nil, List.getElem?_cons_zero, List.getElem?_cons_succ, List.drop_succ_cons, List.drop_zero, List.cons_append, List.nil_append] at hb
        have hb := hb.blk
        have n0 := heap_eq_cell hb 0
        have n1 := heap_eq_cell hb 1
        have nl := lt_of_block hb
        have HFR := Lib.hid hz.fr
        clear hb hz
        obtain ⟨len, hlen⟩ : ∃ len, (zd (V : Int)).length = len := ⟨_, rfl⟩
        rw [hlen] at HAL n1
        have hal : decide (len > 0) = false := HAL.out.symm
        clear hlen
        go_wp2_with fail
        refine (awake_q _).mono ?_
        rintro e w12 ⟨rfl, hf12⟩
        have Hf12 := Lib.hid (HFR.out.trans0 hf12)
        clear hf12
        go_wp2
        go_ret
        exact ⟨rfl, Hf12.out⟩
      | true =>
        have HR := Lib.hid hz
        obtain ⟨HU', HZ', HHZ⟩ := HUZ.out rfl
        have HU := Lib.hid HU'
        have HZ := Lib.hid HZ'
        have hzh : Zok (H : Int) := zok_lt HHZ (by omega)
        have hzf : Zok (f0.1 : Int) := zok_lt HZ.out.1 (by omega)
        have hzu : Zok (g0.1 : Int) := zok_add HU.out.1 HZ.out.1 HHZ (by omega)
        have HADD := Lib.hid (fun w1 (hf : Fr [] wr w1) => radd_in (x := f0) (U := g0.1) (pool_in ((HR.out).step hf) (by simp) HF1.out.2.1) (big_mem (a := ha) (c := hc) ((HR.out).step hf) (by simp)) HU.out.1 hzf hzh hzu)
        have HEQ := Lib.hid (fun w1 Qs a c (h1 : Has W w1 (bigR false (zd (g0.1 : Int)) a c :: Qs)) (hp : poolR L2 ∈ Qs) => equal_n (x := (g0.1, a, c)) (y := g0) (big_mem h1 (by simp)) (pool_in h1 (by simp [hp]) HF2.out.2.1) hzu)
        simp only [bvV, decide_true] at HADD HEQ
        have hb := hz.ord 12 [5]
        simp only [List.filterMap_cons, List.filterMap_nil, List.getElem?_cons_zero, List.getElem?_cons_succ, List.drop_succ_cons, List.drop_zero, List.cons_append, List.nil_append] at hb
        have hb := hb.blk
        simp only [lcells] at hb
        have s0 := heap_eq_cell hb 0
        have s1 := heap_eq_cell hb 1
        have sl := lt_of_block hb
        have hb2 := hz.ord 12 [1]
        simp only [List.filterMap_cons, List.filterMap_nil, List.getElem?_cons_zero, List.getElem?_cons_succ, List.drop_succ_cons, List.drop_zero, List.cons_append, List.nil_append] at hb2
        have hb2 := hb2.blk
        have t0 := heap_eq_cell hb2 0
        have t1 := heap_eq_cell hb2 1
        have tl := lt_of_block hb2
        have ns0 := World.new_ne wr _ s0
        have nt0 := World.new_ne wr _ t0
        clear hb hb2 hz HU' HZ' HHZ hzh hzf hzu
        go_upto_region 17 with fail
        go_cut [25] (fun s25 wx => ∃ (xb : Nat) (va : Option Addr) (vc : Nat), s25 = .pointer (some ⟨xb, 0, none⟩) ∧ Hid (Has W wx (bigR false (zd (g0.1 : Int)) va vc :: Hp.blk xb (.cells #[.bool false, .slice va (zd (g0.1 : Int)).length vc] 38 (0, 0)) :: [storeR b s m', Hp.blk x22 (.cells #[.bool false, .slice ha (zd (H : Int)).length hc] 38 (0, 0)), bigR false (zd (H : Int)) ha hc, Hp.blk x19 (.cells (lcells (true, g0, g1, g2, g3)) 49 (0, 0)), poolR L2, Hp.blk x16 (.cells (lcells (true, f0, f1, f2, f3)) 49 (0, 0)), poolR L1, Hp.blk x14 (.cells #[.bool false, .slice a5 (zd (V : Int)).length c5] 38 (0, 0)), bigR false (zd (V : Int)) a5 c5, Hp.blk x12 (.cells #[.bool false, .slice a4 (zd (V : Int)).length c4] 38 (0, 0)), bigR false (zd (V : Int)) a4 c4, refR r s ns])))
        case first =>
          go_region_held3 (fun w' => w'.cell? ⟨x16, 0, none⟩ = some (.bool false) ∧ w'.cell? ⟨x16, 1, none⟩ = some (.slice f0.2.1 (zd (f0.1 : Int)).length f0.2.2) ∧ w'.cell? ⟨x22, 0, none⟩ = some (.bool false) ∧ w'.cell? ⟨x22, 1, none⟩ = some (.slice ha (zd (H : Int)).length hc)) (first | go_keep | exact ⟨kA0, kA1, kA2, kA3⟩)
            ((go_at_call 24; refine (HADD.out _ ?_).mono ?_; (· (repeat (first | exact Fr.refl _ _ | assumption | apply Fr.drewN | apply Fr.drew | apply Fr.alloc | refine Fr.setCell ?_ (Or.inl (by simp)) _))); rintro e wA ⟨va, vc, rfl, hbA, hfA⟩; have HBA := Lib.hid hbA; clear hbA; have hrA : Fr [] wr wA := Fr.trans0 (by (repeat (first | exact Fr.refl _ _ | assumption | apply Fr.drewN | apply Fr.drew | apply Fr.alloc | refine Fr.setCell ?_ (Or.inl (by simp)) _))) hfA; have kA0 := (hrA.cell (p := ⟨x16, 0, none⟩) sl (by simp)).trans s0; have kA1 := (hrA.cell (p := ⟨x16, 1, none⟩) sl (by simp)).trans s1; have kA2 := (hrA.cell (p := ⟨x22, 0, none⟩) tl (by simp)).trans t0; have kA3 := (hrA.cell (p := ⟨x22, 1, none⟩) tl (by simp)).trans t1; have nA0 := World.new_ne wA _ kA0; obtain ⟨cA, zA⟩ := frcell hfA; (try (have sA : wr.heap.size < wA.heap.size := by have h := hfA.size; (try simp at h); omega))))
          all_goals
            go_wp2_with fail
            go_meet
            first
              | exact ⟨_, va, vc, rfl, Lib.hid (has_alloc (has_bigin (HR.out.step (by (repeat (first | exact Fr.refl _ _ | assumption | apply Fr.drewN | apply Fr.drew | apply Fr.alloc | refine Fr.setCell ?_ (Or.inr (by simp; try omega)) _)))) hfA HBA.out) #[.bool false, .slice va (zd (g0.1 : Int)).length vc] 38).swap⟩
              | exact ⟨_, va, vc, rfl, Lib.hid (has_set (has_set (has_bigin ((has_alloc HR.out #[.bool false, .slice none 0 0] 38).step (by (repeat (first | exact Fr.refl _ _ | assumption | apply Fr.drewN | apply Fr.drew | apply Fr.alloc | refine Fr.setCell ?_ (Or.inr (by simp; try omega)) _)))) hfA HBA.out).swap 0 (.bool false)) 1 (.slice va (zd (g0.1 : Int)).length vc)).swap⟩
              | exact ⟨_, va, vc, rfl, Lib.hid (has_set (has_set (has_bigin ((has_alloc (HR.out.step (by (repeat (first | exact Fr.refl _ _ | assumption | apply Fr.drewN | apply Fr.drew | apply Fr.alloc | refine Fr.setCell ?_ (Or.inr (by simp; try omega)) _)))) #[.bool false, .slice none 0 0] 38).step (by (repeat (first | exact Fr.refl _ _ | assumption | apply Fr.drewN | apply Fr.drew | apply Fr.alloc | refine Fr.setCell ?_ (Or.inr (by simp; try omega)) _)))) hfA HBA.out).swap 0 (.bool false)) 1 (.slice va (zd (g0.1 : Int)).length vc)).swap⟩
        case rest =>
          obtain ⟨xb, va, vc, rfl, HC⟩ := hcut
          have hb := HC.out.swap.blk
          have y0 := heap_eq_cell hb 0
          have y1 := heap_eq_cell hb 1
          have yl := lt_of_block hb
          have hb2 := HC.out.f5.blk
          simp only [lcells] at hb2
          have z0 := heap_eq_cell hb2 0
          have z1 := heap_eq_cell hb2 1
          have zl := lt_of_block hb2
          have HE1 := Lib.hid (fun w1 (hf : Fr [] wc w1) => HEQ.out w1 _ va vc (HC.out.step hf) (by simp))
          clear hb hb2 s0 s1 sl t0 t1 tl ns0 nt0 HADD HEQ HR
          go_wp2
          (refine wp_region_text (by kernel_rfl) (by kernel_rfl) ?_)
          go_wp2_with fail
          refine (HE1.out _ (by (repeat (first | exact Fr.refl _ _ | assumption | apply Fr.drewN | apply Fr.drew | apply Fr.alloc | refine Fr.setCell ?_ (Or.inr (by simp; try omega)) _)))).mono ?_
          rintro e w13 ⟨rfl, hf13⟩
          have hw13 : Fr [] wc w13 := Fr.trans0 (by (repeat (first | exact Fr.refl _ _ | assumption | apply Fr.drewN | apply Fr.drew | apply Fr.alloc | refine Fr.setCell ?_ (Or.inr (by simp; try omega)) _))) hf13
          have h13 := (HC.out.step hw13).drop.drop
          have H13 := Lib.hid h13
          clear hf13 hw13 h13 y0 y1 yl z0 z1 zl
          go_wp2
          refine Strict.intro rfl ?_
          go_wp2
          go_roundw
          case rel => exact ⟨1, rfl, .inr (.inl ⟨rfl, H13.out⟩)⟩
          case measure => simp [intOf]
    · cases okg with
      | false =>
        have hb := hz.ord 12 [9]
        simp only [List.filterMap_cons, List.filterMap_nil, List.getElem?_cons_zero, List.getElem?_cons_succ, List.drop_succ_cons, List.drop_zero, List.cons_append, List.nil_append] at hb
        have hb := hb.blk
        have n0 := heap_eq_cell hb 0
        have n1 := heap_eq_cell hb 1
        have nl := lt_of_block hb
        have HFR := Lib.hid hz.fr
        clear hb hz
        obtain ⟨len, hlen⟩ : ∃ len, (zd (V : Int)).length = len := ⟨_, rfl⟩
        rw [hlen] at HAL n1
        have hal : decide (len > 0) = false := HAL.out.symm
        clear hlen
        go_wp2_with fail
        refine (awake_q _).mono ?_
        rintro e w12 ⟨rfl, hf12⟩
        have Hf12 := Lib.hid (HFR.out.trans0 hf12)
        clear hf12
        go_wp2
        go_ret
        exact ⟨rfl, Hf12.out⟩
      | true =>
        have HR := Lib.hid hz
        obtain ⟨HU', HZ', HHZ⟩ := HUZ.out rfl
        have HU := Lib.hid HU'
        have HZ := Lib.hid HZ'
        have hzh : Zok (H : Int) := zok_lt HHZ (by omega)
        have hzf : Zok (f1.1 : Int) := zok_lt HZ.out.2.1 (by omega)
        have hzu : Zok (g1.1 : Int) := zok_add HU.out.2.1 HZ.out.2.1 HHZ (by omega)
        have HADD := Lib.hid (fun w1 (hf : Fr [] wr w1) => radd_in (x := f1) (U := g1.1) (pool_in ((HR.out).step hf) (by simp) HF1.out.2.2.1) (big_mem (a := ha) (c := hc) ((HR.out).step hf) (by simp)) HU.out.2.1 hzf hzh hzu)
        have HEQ := Lib.hid (fun w1 Qs a c (h1 : Has W w1 (bigR false (zd (g1.1 : Int)) a c :: Qs)) (hp : poolR L2 ∈ Qs) => equal_n (x := (g1.1, a, c)) (y := g1) (big_mem h1 (by simp)) (pool_in h1 (by simp [hp]) HF2.out.2.2.1) hzu)
        simp only [bvV, decide_true] at HADD HEQ
        have hb := hz.ord 12 [5]
        simp only [List.filterMap_cons, List.filterMap_nil, List.getElem?_cons_zero, List.getElem?_cons_succ, List.drop_succ_cons, List.drop_zero, List.cons_append, List.nil_append] at hb
        have hb := hb.blk
        simp only [lcells] at hb
        have s0 := heap_eq_cell hb 2
        have s1 := heap_eq_cell hb 3
        have sl := lt_of_block hb
        have hb2 := hz.ord 12 [1]
        simp only [List.filterMap_cons, List.filterMap_nil, List.getElem?_cons_zero, List.getElem?_cons_succ, List.drop_succ_cons, List.drop_zero, List.cons_append, List.nil_append] at hb2
        have hb2 := hb2.blk
        have t0 := heap_eq_cell hb2 0
        have t1 := heap_eq_cell hb2 1
        have tl := lt_of_block hb2
        have ns0 := World.new_ne wr _ s0
        have nt0 := World.new_ne wr _ t0
        clear hb hb2 hz HU' HZ' HHZ hzh hzf hzu
        go_upto_region 17 with fail
        go_cut [25] (fun s25 wx => ∃ (xb : Nat) (va : Option Addr) (vc : Nat), s25 = .pointer (some ⟨xb, 0, none⟩) ∧ Hid (Has W wx (bigR false (zd (g1.1 : Int)) va vc :: Hp.blk xb (.cells #[.bool false, .slice va (zd (g1.1 : Int)).length vc] 38 (0, 0)) :: [storeR b s m', Hp.blk x22 (.cells #[.bool false, .slice ha (zd (H : Int)).length hc] 38 (0, 0)), bigR false (zd (H : Int)) ha hc, Hp.blk x19 (.cells (lcells (true, g0, g1, g2, g3)) 49 (0, 0)), poolR L2, Hp.blk x16 (.cells (lcells (true, f0, f1, f2, f3)) 49 (0, 0)), poolR L1, Hp.blk x14 (.cells #[.bool false, .slice a5 (zd (V : Int)).length c5] 38 (0, 0)), bigR false (zd (V : Int)) a5 c5, Hp.blk x12 (.cells #[.bool false, .slice a4 (zd (V : Int)).length c4] 38 (0, 0)), bigR false (zd (V : Int)) a4 c4, refR r s ns])))
        case first =>
          go_region_held3 (fun w' => w'.cell? ⟨x16, 2, none⟩ = some (.bool false) ∧ w'.cell? ⟨x16, 3, none⟩ = some (.slice f1.2.1 (zd (f1.1 : Int)).length f1.2.2) ∧ w'.cell? ⟨x22, 0, none⟩ = some (.bool false) ∧ w'.cell? ⟨x22, 1, none⟩ = some (.slice ha (zd (H : Int)).length hc)) (first | go_keep | exact ⟨kA0, kA1, kA2, kA3⟩)
            ((go_at_call 24; refine (HADD.out _ ?_).mono ?_; (· (repeat (first | exact Fr.refl _ _ | assumption | apply Fr.drewN | apply Fr.drew | apply Fr.alloc | refine Fr.setCell ?_ (Or.inl (by simp)) _))); rintro e wA ⟨va, vc, rfl, hbA, hfA⟩; have HBA := Lib.hid hbA; clear hbA; have hrA : Fr [] wr wA := Fr.trans0 (by (repeat (first | exact Fr.refl _ _ | assumption | apply Fr.drewN | apply Fr.drew | apply Fr.alloc | refine Fr.setCell ?_ (Or.inl (by simp)) _))) hfA; have kA0 := (hrA.cell (p := ⟨x16, 2, none⟩) sl (by simp)).trans s0; have kA1 := (hrA.cell (p := ⟨x16, 3, none⟩) sl (by simp)).trans s1; have kA2 := (hrA.cell (p := ⟨x22, 0, none⟩) tl (by simp)).trans t0; have kA3 := (hrA.cell (p := ⟨x22, 1, none⟩) tl (by simp)).trans t1; have nA0 := World.new_ne wA _ kA0; obtain ⟨cA, zA⟩ := frcell hfA; (try (have sA : wr.heap.size < wA.heap.size := by have h := hfA.size; (try simp at h); omega))))
          all_goals
            go_wp2_with fail
            go_meet
            first
              | exact ⟨_, va, vc, rfl, Lib.hid (has_alloc (has_bigin (HR.out.step (by (repeat (first | exact Fr.refl _ _ | assumption | apply Fr.drewN | apply Fr.drew | apply Fr.alloc | refine Fr.setCell ?_ (Or.inr (by simp; try omega)) _)))) hfA HBA.out) #[.bool false, .slice va (zd (g1.1 : Int)).length vc] 38).swap⟩
              | exact ⟨_, va, vc, rfl, Lib.hid (has_set (has_set (has_bigin ((has_alloc HR.out #[.bool false, .slice none 0 0] 38).step (by (repeat (first | exact Fr.refl _ _ | assumption | apply Fr.drewN | apply Fr.drew | apply Fr.alloc | refine Fr.setCell ?_ (Or.inr (by simp; try omega)) _)))) hfA HBA.out).swap 0 (.bool false)) 1 (.slice va (zd (g1.1 : Int)).length vc)).swap⟩
              | exact ⟨_, va, vc, rfl, Lib.hid (has_set (has_set (has_bigin ((has_alloc (HR.out.step (by (repeat (first | exact Fr.refl _ _ | assumption | apply Fr.drewN | apply Fr.drew | apply Fr.alloc | refine Fr.setCell ?_ (Or.inr (by simp; try omega)) _)))) #[.bool false, .slice none 0 0] 38).step (by (repeat (first | exact Fr.refl _ _ | assumption | apply Fr.drewN | apply Fr.drew | apply Fr.alloc | refine Fr.setCell ?_ (Or.inr (by simp; try omega)) _)))) hfA HBA.out).swap 0 (.bool false)) 1 (.slice va (zd (g1.1 : Int)).length vc)).swap⟩
        case rest =>
          obtain ⟨xb, va, vc, rfl, HC⟩ := hcut
          have hb := HC.out.swap.blk
          have y0 := heap_eq_cell hb 0
          have y1 := heap_eq_cell hb 1
          have yl := lt_of_block hb
          have hb2 := HC.out.f5.blk
          simp only [lcells] at hb2
          have z0 := heap_eq_cell hb2 2
          have z1 := heap_eq_cell hb2 3
          have zl := lt_of_block hb2
          have HE1 := Lib.hid (fun w1 (hf : Fr [] wc w1) => HEQ.out w1 _ va vc (HC.out.step hf) (by simp))
          clear hb hb2 s0 s1 sl t0 t1 tl ns0 nt0 HADD HEQ HR
          go_wp2
          (refine wp_region_text (by kernel_rfl) (by kernel_rfl) ?_)
          go_wp2_with fail
          refine (HE1.out _ (by (repeat (first | exact Fr.refl _ _ | assumption | apply Fr.drewN | apply Fr.drew | apply Fr.alloc | refine Fr.setCell ?_ (Or.inr (by simp; try omega)) _)))).mono ?_
          rintro e w13 ⟨rfl, hf13⟩
          have hw13 : Fr [] wc w13 := Fr.trans0 (by (repeat (first | exact Fr.refl _ _ | assumption | apply Fr.drewN | apply Fr.drew | apply Fr.alloc | refine Fr.setCell ?_ (Or.inr (by simp; try omega)) _))) hf13
          have h13 := (HC.out.step hw13).drop.drop
          have H13 := Lib.hid h13
          clear hf13 hw13 h13 y0 y1 yl z0 z1 zl
          go_wp2
          refine Strict.intro rfl ?_
          go_wp2
          go_roundw
          case rel => exact ⟨2, rfl, .inr (.inr (.inl ⟨rfl, H13.out⟩))⟩
          case measure => simp [intOf]
    · cases okg with
      | false =>
        have hb := hz.ord 12 [9]
        simp only [List.filterMap_cons, List.filterMap_nil, List.getElem?_cons_zero, List.getElem?_cons_succ, List.drop_succ_cons, List.drop_zero, List.cons_append, List.nil_append] at hb
        have hb := hb.blk
        have n0 := heap_eq_cell hb 0
        have n1 := heap_eq_cell hb 1
        have nl := lt_of_block hb
        have HFR := Lib.hid hz.fr
        clear hb hz
        obtain ⟨len, hlen⟩ : ∃ len, (zd (V : Int)).length = len := ⟨_, rfl⟩
        rw [hlen] at HAL n1
        have hal : decide (len > 0) = false := HAL.out.symm
        clear hlen
        go_wp2_with fail
        refine (awake_q _).mono ?_
        rintro e w12 ⟨rfl, hf12⟩
        have Hf12 := Lib.hid (HFR.out.trans0 hf12)
        clear hf12
        go_wp2
        go_ret
        exact ⟨rfl, Hf12.out⟩
      | true =>
        have HR := Lib.hid hz
        obtain ⟨HU', HZ', HHZ⟩ := HUZ.out rfl
        have HU := Lib.hid HU'
        have HZ := Lib.hid HZ'
        have hzh : Zok (H : Int) := zok_lt HHZ (by omega)
        have hzf : Zok (f2.1 : Int) := zok_lt HZ.out.2.2.1 (by omega)
        have hzu : Zok (g2.1 : Int) := zok_add HU.out.2.2.1 HZ.out.2.2.1 HHZ (by omega)
        have HADD := Lib.hid (fun w1 (hf : Fr [] wr w1) => radd_in (x := f2) (U := g2.1) (pool_in ((HR.out).step hf) (by simp) HF1.out.2.2.2.1) (big_mem (a := ha) (c := hc) ((HR.out).step hf) (by simp)) HU.out.2.2.1 hzf hzh hzu)
        have HEQ := Lib.hid (fun w1 Qs a c (h1 : Has W w1 (bigR false (zd (g2.1 : Int)) a c :: Qs)) (hp : poolR L2 ∈ Qs) => equal_n (x := (g2.1, a, c)) (y := g2) (big_mem h1 (by simp)) (pool_in h1 (by simp [hp]) HF2.out.2.2.2.1) hzu)
        simp only [bvV, decide_true] at HADD HEQ
        have hb := hz.ord 12 [5]
        simp only [List.filterMap_cons, List.filterMap_nil, List.getElem?_cons_zero, List.getElem?_cons_succ, List.drop_succ_cons, List.drop_zero, List.cons_append, List.nil_append] at hb
        have hb := hb.blk
        simp only [lcells] at hb
        have s0 := heap_eq_cell hb 4
        have s1 := heap_eq_cell hb 5
        have sl := lt_of_block hb
        have hb2 := hz.ord 12 [1]
        simp only [List.filterMap_cons, List.filterMap_nil, List.getElem?_cons_zero, List.getElem?_cons_succ, List.drop_succ_cons, List.drop_zero, List.cons_append, List.nil_append] at hb2
        have hb2 := hb2.blk
        have t0 := heap_eq_cell hb2 0
        have t1 := heap_eq_cell hb2 1
        have tl := lt_of_block hb2
        have ns0 := World.new_ne wr _ s0
        have nt0 := World.new_ne wr _ t0
        clear hb hb2 hz HU' HZ' HHZ hzh hzf hzu
        go_upto_region 17 with fail
        go_cut [25] (fun s25 wx => ∃ (xb : Nat) (va : Option Addr) (vc : Nat), s25 = .pointer (some ⟨xb, 0, none⟩) ∧ Hid (Has W wx (bigR false (zd (g2.1 : Int)) va vc :: Hp.blk xb (.cells #[.bool false, .slice va (zd (g2.1 : Int)).length vc] 38 (0, 0)) :: [storeR b s m', Hp.blk x22 (.cells #[.bool false, .slice ha (zd (H : Int)).length hc] 38 (0, 0)), bigR false (zd (H : Int)) ha hc, Hp.blk x19 (.cells (lcells (true, g0, g1, g2, g3)) 49 (0, 0)), poolR L2, Hp.blk x16 (.cells (lcells (true, f0, f1, f2, f3)) 49 (0, 0)), poolR L1, Hp.blk x14 (.cells #[.bool false, .slice a5 (zd (V : Int)).length c5] 38 (0, 0)), bigR false (zd (V : Int)) a5 c5, Hp.blk x12 (.cells #[.bool false, .slice a4 (zd (V : Int)).length c4] 38 (0, 0)), bigR false (zd (V : Int)) a4 c4, refR r s ns])))
        case first =>
          go_region_held3 (fun w' => w'.cell? ⟨x16, 4, none⟩ = some (.bool false) ∧ w'.cell? ⟨x16, 5, none⟩ = some (.slice f2.2.1 (zd (f2.1 : Int)).length f2.2.2) ∧ w'.cell? ⟨x22, 0, none⟩ = some (.bool false) ∧ w'.cell? ⟨x22, 1, none⟩ = some (.slice ha (zd (H : Int)).length hc)) (first | go_keep | exact ⟨kA0, kA1, kA2, kA3⟩)
            ((go_at_call 24; refine (HADD.out _ ?_).mono ?_; (· (repeat (first | exact Fr.refl _ _ | assumption | apply Fr.drewN | apply Fr.drew | apply Fr.alloc | refine Fr.setCell ?_ (Or.inl (by simp)) _))); rintro e wA ⟨va, vc, rfl, hbA, hfA⟩; have HBA := Lib.hid hbA; clear hbA; have hrA : Fr [] wr wA := Fr.trans0 (by (repeat (first | exact Fr.refl _ _ | assumption | apply Fr.drewN | apply Fr.drew | apply Fr.alloc | refine Fr.setCell ?_ (Or.inl (by simp)) _))) hfA; have kA0 := (hrA.cell (p := ⟨x16, 4, none⟩) sl (by simp)).trans s0; have kA1 := (hrA.cell (p := ⟨x16, 5, none⟩) sl (by simp)).trans s1; have kA2 := (hrA.cell (p := ⟨x22, 0, none⟩) tl (by simp)).trans t0; have kA3 := (hrA.cell (p := ⟨x22, 1, none⟩) tl (by simp)).trans t1; have nA0 := World.new_ne wA _ kA0; obtain ⟨cA, zA⟩ := frcell hfA; (try (have sA : wr.heap.size < wA.heap.size := by have h := hfA.size; (try simp at h); omega))))
          all_goals
            go_wp2_with fail
            go_meet
            first
              | exact ⟨_, va, vc, rfl, Lib.hid (has_alloc (has_bigin (HR.out.step (by (repeat (first | exact Fr.refl _ _ | assumption | apply Fr.drewN | apply Fr.drew | apply Fr.alloc | refine Fr.setCell ?_ (Or.inr (by simp; try omega)) _)))) hfA HBA.out) #[.bool false, .slice va (zd (g2.1 : Int)).length vc] 38).swap⟩
              | exact ⟨_, va, vc, rfl, Lib.hid (has_set (has_set (has_bigin ((has_alloc HR.out #[.bool false, .slice none 0 0] 38).step (by (repeat (first | exact Fr.refl _ _ | assumption | apply Fr.drewN | apply Fr.drew | apply Fr.alloc | refine Fr.setCell ?_ (Or.inr (by simp; try omega)) _)))) hfA HBA.out).swap 0 (.bool false)) 1 (.slice va (zd (g2.1 : Int)).length vc)).swap⟩
              | exact ⟨_, va, vc, rfl, Lib.hid (has_set (has_set (has_bigin ((has_alloc (HR.out.step (by (repeat (first | exact Fr.refl _ _ | assumption | apply Fr.drewN | apply Fr.drew | apply Fr.alloc | refine Fr.setCell ?_ (Or.inr (by simp; try omega)) _)))) #[.bool false, .slice none 0 0] 38).step (by (repeat (first | exact Fr.refl _ _ | assumption | apply Fr.drewN | apply Fr.drew | apply Fr.alloc | refine Fr.setCell ?_ (Or.inr (by simp; try omega)) _)))) hfA HBA.out).swap 0 (.bool false)) 1 (.slice va (zd (g2.1 : Int)).length vc)).swap⟩
        case rest =>
          obtain ⟨xb, va, vc, rfl, HC⟩ := hcut
          have hb := HC.out.swap.blk
          have y0 := heap_eq_cell hb 0
          have y1 := heap_eq_cell hb 1
          have yl := lt_of_block hb
          have hb2 := HC.out.f5.blk
          simp only [lcells] at hb2
          have z0 := heap_eq_cell hb2 4
          have z1 := heap_eq_cell hb2 5
          have zl := lt_of_block hb2
          have HE1 := Lib.hid (fun w1 (hf : Fr [] wc w1) => HEQ.out w1 _ va vc (HC.out.step hf) (by simp))
          clear hb hb2 s0 s1 sl t0 t1 tl ns0 nt0 HADD HEQ HR
          go_wp2
          (refine wp_region_text (by kernel_rfl) (by kernel_rfl) ?_)
          go_wp2_with fail
          refine (HE1.out _ (by (repeat (first | exact Fr.refl _ _ | assumption | apply Fr.drewN | apply Fr.drew | apply Fr.alloc | refine Fr.setCell ?_ (Or.inr (by simp; try omega)) _)))).mono ?_
          rintro e w13 ⟨rfl, hf13⟩
          have hw13 : Fr [] wc w13 := Fr.trans0 (by (repeat (first | exact Fr.refl _ _ | assumption | apply Fr.drewN | apply Fr.drew | apply Fr.alloc | refine Fr.setCell ?_ (Or.inr (by simp; try omega)) _))) hf13
          have h13 := (HC.out.step hw13).drop.drop
          have H13 := Lib.hid h13
          clear hf13 hw13 h13 y0 y1 yl z0 z1 zl
          go_wp2
          refine Strict.intro rfl ?_
          go_wp2
          go_roundw
          case rel => exact ⟨3, rfl, .inr (.inr (.inr (.inl ⟨rfl, H13.out⟩)))⟩
          case measure => simp [intOf]
    · cases okg with
      | false =>
        have hb := hz.ord 12 [9]
        simp only [List.filterMap_cons, List.filterMap_nil, List.getElem?_cons_zero, List.getElem?_cons_succ, List.drop_succ_cons, List.drop_zero, List.cons_append, List.nil_append] at hb
        have hb := hb.blk
        have n0 := heap_eq_cell hb 0
        have n1 := heap_eq_cell hb 1
        have nl := lt_of_block hb
        have HFR := Lib.hid hz.fr
        clear hb hz
        obtain ⟨len, hlen⟩ : ∃ len, (zd (V : Int)).length = len := ⟨_, rfl⟩
        rw [hlen] at HAL n1
        have hal : decide (len > 0) = false := HAL.out.symm
        clear hlen
        go_wp2_with fail
        refine (awake_q _).mono ?_
        rintro e w12 ⟨rfl, hf12⟩
        have Hf12 := Lib.hid (HFR.out.trans0 hf12)
        clear hf12
        go_wp2
        go_ret
        exact ⟨rfl, Hf12.out⟩
      | true =>
        have HR := Lib.hid hz
        obtain ⟨HU', HZ', HHZ⟩ := HUZ.out rfl
        have HU := Lib.hid HU'
        have HZ := Lib.hid HZ'
        have hzh : Zok (H : Int) := zok_lt HHZ (by omega)
        have hzf : Zok (f3.1 : Int) := zok_lt HZ.out.2.2.2 (by omega)
        have hzu : Zok (g3.1 : Int) := zok_add HU.out.2.2.2 HZ.out.2.2.2 HHZ (by omega)
        have HADD := Lib.hid (fun w1 (hf : Fr [] wr w1) => radd_in (x := f3) (U := g3.1) (pool_in ((HR.out).step hf) (by simp) HF1.out.2.2.2.2) (big_mem (a := ha) (c := hc) ((HR.out).step hf) (by simp)) HU.out.2.2.2 hzf hzh hzu)
        have HEQ := Lib.hid (fun w1 Qs a c (h1 : Has W w1 (bigR false (zd (g3.1 : Int)) a c :: Qs)) (hp : poolR L2 ∈ Qs) => equal_n (x := (g3.1, a, c)) (y := g3) (big_mem h1 (by simp)) (pool_in h1 (by simp [hp]) HF2.out.2.2.2.2) hzu)
        simp only [bvV, decide_true] at HADD HEQ
        have hb := hz.ord 12 [5]
        simp only [List.filterMap_cons, List.filterMap_nil, List.getElem?_cons_zero, List.getElem?_cons_succ, List.drop_succ_cons, List.drop_zero, List.cons_append, List.nil_append] at hb
        have hb := hb.blk
        simp only [lcells] at hb
        have s0 := heap_eq_cell hb 6
        have s1 := heap_eq_cell hb 7
        have sl := lt_of_block hb
        have hb2 := hz.ord 12 [1]
        simp only [List.filterMap_cons, List.filterMap_nil, List.getElem?_cons_zero, List.getElem?_cons_succ, List.drop_succ_cons, List.drop_zero, List.cons_append, List.nil_append] at hb2
        have hb2 := hb2.blk
        have t0 := heap_eq_cell hb2 0
        have t1 := heap_eq_cell hb2 1
        have tl := lt_of_block hb2
        have ns0 := World.new_ne wr _ s0
        have nt0 := World.new_ne wr _ t0
        clear hb hb2 hz HU' HZ' HHZ hzh hzf hzu
        go_upto_region 17 with fail
        go_cut [25] (fun s25 wx => ∃ (xb : Nat) (va : Option Addr) (vc : Nat), s25 = .pointer (some ⟨xb, 0, none⟩) ∧ Hid (Has W wx (bigR false (zd (g3.1 : Int)) va vc :: Hp.blk xb (.cells #[.bool false, .slice va (zd (g3.1 : Int)).length vc] 38 (0, 0)) :: [storeR b s m', Hp.blk x22 (.cells #[.bool false, .slice ha (zd (H : Int)).length hc] 38 (0, 0)), bigR false (zd (H : Int)) ha hc, Hp.blk x19 (.cells (lcells (true, g0, g1, g2, g3)) 49 (0, 0)), poolR L2, Hp.blk x16 (.cells (lcells (true, f0, f1, f2, f3)) 49 (0, 0)), poolR L1, Hp.blk x14 (.cells #[.bool false, .slice a5 (zd (V : Int)).length c5] 38 (0, 0)), bigR false (zd (V : Int)) a5 c5, Hp.blk x12 (.cells #[.bool false, .slice a4 (zd (V : Int)).length c4] 38 (0, 0)), bigR false (zd (V : Int)) a4 c4, refR r s ns])))
        case first =>
          go_region_held3 (fun w' => w'.cell? ⟨x16, 6, none⟩ = some (.bool false) ∧ w'.cell? ⟨x16, 7, none⟩ = some (.slice f3.2.1 (zd (f3.1 : Int)).length f3.2.2) ∧ w'.cell? ⟨x22, 0, none⟩ = some (.bool false) ∧ w'.cell? ⟨x22, 1, none⟩ = some (.slice ha (zd (H : Int)).length hc)) (first | go_keep | exact ⟨kA0, kA1, kA2, kA3⟩)
            ((go_at_call 24; refine (HADD.out _ ?_).mono ?_; (· (repeat (first | exact Fr.refl _ _ | assumption | apply Fr.drewN | apply Fr.drew | apply Fr.alloc | refine Fr.setCell ?_ (Or.inl (by simp)) _))); rintro e wA ⟨va, vc, rfl, hbA, hfA⟩; have HBA := Lib.hid hbA; clear hbA; have hrA : Fr [] wr wA := Fr.trans0 (by (repeat (first | exact Fr.refl _ _ | assumption | apply Fr.drewN | apply Fr.drew | apply Fr.alloc | refine Fr.setCell ?_ (Or.inl (by simp)) _))) hfA; have kA0 := (hrA.cell (p := ⟨x16, 6, none⟩) sl (by simp)).trans s0; have kA1 := (hrA.cell (p := ⟨x16, 7, none⟩) sl (by simp)).trans s1; have kA2 := (hrA.cell (p := ⟨x22, 0, none⟩) tl (by simp)).trans t0; have kA3 := (hrA.cell (p := ⟨x22, 1, none⟩) tl (by simp)).trans t1; have nA0 := World.new_ne wA _ kA0; obtain ⟨cA, zA⟩ := frcell hfA; (try (have sA : wr.heap.size < wA.heap.size := by have h := hfA.size; (try simp at h); omega))))
          all_goals
            go_wp2_with fail
            go_meet
            first
              | exact ⟨_, va, vc, rfl, Lib.hid (has_alloc (has_bigin (HR.out.step (by (repeat (first | exact Fr.refl _ _ | assumption | apply Fr.drewN | apply Fr.drew | apply Fr.alloc | refine Fr.setCell ?_ (Or.inr (by simp; try omega)) _)))) hfA HBA.out) #[.bool false, .slice va (zd (g3.1 : Int)).length vc] 38).swap⟩
              | exact ⟨_, va, vc, rfl, Lib.hid (has_set (has_set (has_bigin ((has_alloc HR.out #[.bool false, .slice none 0 0] 38).step (by (repeat (first | exact Fr.refl _ _ | assumption | apply Fr.drewN | apply Fr.drew | apply Fr.alloc | refine Fr.setCell ?_ (Or.inr (by simp; try omega)) _)))) hfA HBA.out).swap 0 (.bool false)) 1 (.slice va (zd (g3.1 : Int)).length vc)).swap⟩
              | exact ⟨_, va, vc, rfl, Lib.hid (has_set (has_set (has_bigin ((has_alloc (HR.out.step (by (repeat (first | exact Fr.refl _ _ | assumption | apply Fr.drewN | apply Fr.drew | apply Fr.alloc | refine Fr.setCell ?_ (Or.inr (by simp; try omega)) _)))) #[.bool false, .slice none 0 0] 38).step (by (repeat (first | exact Fr.refl _ _ | assumption | apply Fr.drewN | apply Fr.drew | apply Fr.alloc | refine Fr.setCell ?_ (Or.inr (by simp; try omega)) _)))) hfA HBA.out).swap 0 (.bool false)) 1 (.slice va (zd (g3.1 : Int)).length vc)).swap⟩
        case rest =>
          obtain ⟨xb, va, vc, rfl, HC⟩ := hcut
          have hb := HC.out.swap.blk
          have y0 := heap_eq_cell hb 0
          have y1 := heap_eq_cell hb 1
          have yl := lt_of_block hb
          have hb2 := HC.out.f5.blk
          simp only [lcells] at hb2
          have z0 := heap_eq_cell hb2 6
          have z1 := heap_eq_cell hb2 7
          have zl := lt_of_block hb2
          have HE1 := Lib.hid (fun w1 (hf : Fr [] wc w1) => HEQ.out w1 _ va vc (HC.out.step hf) (by simp))
          clear hb hb2 s0 s1 sl t0 t1 tl ns0 nt0 HADD HEQ HR
          go_wp2
          (refine wp_region_text (by kernel_rfl) (by kernel_rfl) ?_)
          go_wp2_with fail
          refine (HE1.out _ (by (repeat (first | exact Fr.refl _ _ | assumption | apply Fr.drewN | apply Fr.drew | apply Fr.alloc | refine Fr.setCell ?_ (Or.inr (by simp; try omega)) _)))).mono ?_
          rintro e w13 ⟨rfl, hf13⟩
          have hw13 : Fr [] wc w13 := Fr.trans0 (by (repeat (first | exact Fr.refl _ _ | assumption | apply Fr.drewN | apply Fr.drew | apply Fr.alloc | refine Fr.setCell ?_ (Or.inr (by simp; try omega)) _))) hf13
          have h13 := (HC.out.step hw13).drop.drop
          have H13 := Lib.hid h13
          clear hf13 hw13 h13 y0 y1 yl z0 z1 zl
          go_wp2
          refine Strict.intro rfl ?_
          go_wp2
          go_roundw
          case rel => exact ⟨4, rfl, .inr (.inr (.inr (.inr (⟨rfl, H13.out⟩))))⟩
          case measure => simp [intOf]
    · cases okg with
      | false =>
        have hb := hz.ord 12 [9]
        simp only [List.filterMap_cons, List.filterMap_nil, List.getElem?_cons_zero, List.getElem?_cons_succ, List.drop_succ_cons, List.drop_zero, List.cons_append, List.nil_append] at hb
        have hb := hb.blk
        have n0 := heap_eq_cell hb 0
        have n1 := heap_eq_cell hb 1
        have nl := lt_of_block hb
        have HFR := Lib.hid hz.fr
        clear hb hz
        obtain ⟨len, hlen⟩ : ∃ len, (zd (V : Int)).length = len := ⟨_, rfl⟩
        rw [hlen] at HAL n1
        have hal : decide (len > 0) = false := HAL.out.symm
        clear hlen
        go_wp2_with fail
        refine (awake_q _).mono ?_
        rintro e w12 ⟨rfl, hf12⟩
        have Hf12 := Lib.hid (HFR.out.trans0 hf12)
        clear hf12
        go_wp2
        go_ret
        exact ⟨rfl, Hf12.out⟩
      | true =>
        have hb := hz.ord 12 [9]
        simp only [List.filterMap_cons, List.filterMap_nil, List.getElem?_cons_zero, List.getElem?_cons_succ, List.drop_succ_cons, List.drop_zero, List.cons_append, List.nil_append] at hb
        have hb := hb.blk
        have n0 := heap_eq_cell hb 0
        have n1 := heap_eq_cell hb 1
        have nl := lt_of_block hb
        have HFR := Lib.hid hz.fr
        clear hb hz
        obtain ⟨len, hlen⟩ : ∃ len, (zd (V : Int)).length = len := ⟨_, rfl⟩
        rw [hlen] at HAL n1
        have hal : decide (len > 0) = true := HAL.out.symm
        clear hlen
        go_wp2_with fail
        refine (awake_q _).mono ?_
        rintro e w12 ⟨rfl, hf12⟩
        have Hf12 := Lib.hid (HFR.out.trans0 hf12)
        clear hf12
        go_wp2
        go_ret
        exact ⟨rfl, Hf12.out⟩
end Go.Proofs.Ytdanghnadbkhfaa
end
