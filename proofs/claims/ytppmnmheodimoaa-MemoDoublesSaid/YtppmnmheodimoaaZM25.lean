/- Own texts of this claim, part 26: no condition. -/
import Derived.Test.YtppmnmheodimoaaZM23
section
/- The rule of the fixed example. -/
namespace Go.Proofs.Ytppmnmheodimoaa
open Go Go.RowKit Go.Proofs.Rg Go.Proofs.Mp Go.Proofs.Hp Go.Proofs.Qs Go.Proofs.Ev
set_option linter.unusedVariables false
set_option linter.unusedSimpArgs false
theorem results_cell2 {fn : Func} {p u : Tmp} {ty : TypeId} (h : fn.results = #[.cell p ty, .tmp u]) (tmps : Array Value) (P : Program) (w : World) :
    (results fn tmps).run P w = ((asAddr (tmps.getD p undef)).run P w).andThen fun a w₁ => ((loadVar ty a).run P w₁).andThen fun x w₂ => .ok (.tuple #[x, tmps.getD u undef]) w₂ := by
  simp only [results, h]
  simp [Sem.run_bind, Result.andThen]
theorem results_cell1 {fn : Func} {p : Tmp} {ty : TypeId} (h : fn.results = #[.cell p ty]) (tmps : Array Value) (P : Program) (w : World) :
    (results fn tmps).run P w = ((asAddr (tmps.getD p undef)).run P w).andThen fun a w₁ => (loadVar ty a).run P w₁ := by
  simp only [results, h]
  simp [Sem.run_bind, Result.andThen]
/-- the results of a function that returns a big integer in a cell, and an error -/
theorem node_result1 {fn : Func} {p : Tmp} (h : fn.results = #[.cell p 91]) {tmps : Array Value} {b : Nat} {w' : World} {x y : Value} (h4 : tmps.getD p undef = .pointer (some ⟨b, 0, none⟩)) (hb : w'.heap[b]? = some (.cells #[x, y] 91 (0, 0))) :
    (results fn tmps).run Try.prog w' = .ok (.agg #[x, y]) w' := by
  rw [results_cell1 h, h4]
  simp only [asAddr, Sem.run_pure, Result.andThen]
  rw [run_loadVar_row w' b _ _ _ _ _ hb Try.underlying91 rfl (by kernel_rfl)]
theorem tree_result1 {fn : Func} {p : Tmp} (h : fn.results = #[.cell p 31]) {tmps : Array Value} {b : Nat} {w' : World} {x y z : Value} (h4 : tmps.getD p undef = .pointer (some ⟨b, 0, none⟩)) (hb : w'.heap[b]? = some (.cells #[x, y, z] 31 (0, 0))) :
    (results fn tmps).run Try.prog w' = .ok (.agg #[x, y, z]) w' := by
  rw [results_cell1 h, h4]
  simp only [asAddr, Sem.run_pure, Result.andThen]
  rw [run_loadVar_row w' b _ _ _ _ _ hb Try.underlying31 rfl (by kernel_rfl)]
theorem tree_result2 {fn : Func} {p u : Tmp} (h : fn.results = #[.cell p 31, .tmp u]) {tmps : Array Value} {b : Nat} {w' : World} {x y z v : Value} (h4 : tmps.getD p undef = .pointer (some ⟨b, 0, none⟩)) (hb : w'.heap[b]? = some (.cells #[x, y, z] 31 (0, 0))) (h5 : tmps.getD u undef = v) :
    (results fn tmps).run Try.prog w' = .ok (.tuple #[.agg #[x, y, z], v]) w' := by
  rw [results_cell2 h, h4]
  simp only [asAddr, Sem.run_pure, Result.andThen]
  rw [run_loadVar_row w' b _ _ _ _ _ hb Try.underlying31 rfl (by kernel_rfl)]
  simp only [h5]
set_option maxHeartbeats 4000000 in
set_option maxRecDepth 100000 in
theorem RAll_calls {w : World} {S : Nat} (hS : S ≤ 8) (lv k : Int) : Calls Try.prog 64 #[.int .i64 lv, .int .i64 S, .int .i64 k] w fun e w' => ∃ a c, e = .returned (.agg #[.int .i64 lv, .slice a S c]) ∧ IntsAt w' (.slice a S c) (List.replicate S k) ∧ (∀ g, (Value.slice a S c).ownBlock = some g → w.heap.size ≤ g) ∧ Fr [] w w' := by
  go_enter Try.func64, Try.ntmps64
  go_wp2
  refine abs_world (fun W => Fr [] w W ∧ W.heap[w.heap.size]? = some (.cells #[.int .i64 0, .slice none 0 0] 91 (0, 0)) ∧ W.heap[w.heap.size + 1]? = some (.cells #[.int .i64 lv, .slice none 0 0] 91 (0, 0)) ∧ W.heap.size = w.heap.size + 2) ⟨by (repeat (first | exact Fr.refl _ _ | assumption | apply Fr.drewN | apply Fr.drew | apply Fr.alloc | refine Fr.setCell ?_ (Or.inr (by simp; try omega)) _)), by (repeat (first | rw [if_pos (by omega)] | rw [if_neg (by omega)] | rw [hp_drew] | rw [hp_drewN] | rw [hp_alloc_size] | rw [hp_setCell_size] | rw [hp_alloc] | rw [hp_setCell] | rw [Option.map_some] | rw [upd_cells] | rw [List.set_cons_zero] | rw [List.set_cons_succ] | rfl)), by (repeat (first | rw [if_pos (by omega)] | rw [if_neg (by omega)] | rw [hp_drew] | rw [hp_drewN] | rw [hp_alloc_size] | rw [hp_setCell_size] | rw [hp_alloc] | rw [hp_setCell] | rw [Option.map_some] | rw [upd_cells] | rw [List.set_cons_zero] | rw [List.set_cons_succ] | rfl)), by simp⟩ ?_
  rintro W ⟨hf, h6, h7, hsz⟩
  obtain ⟨b6, hb6⟩ : ∃ b, w.heap.size = b := ⟨_, rfl⟩
  obtain ⟨b7, hb7⟩ : ∃ b, w.heap.size + 1 = b := ⟨_, rfl⟩
  have hne : b6 ≠ b7 := by omega
  have hl7 : b7 < W.heap.size := by omega
  have HSZ := Lib.hid (show b6 < W.heap.size ∧ w.heap.size ≤ b6 ∧ w.heap.size ≤ b7 ∧ b6 ≠ b7 by omega)
  have HL7 := Lib.hid hl7
  rw [hb6] at h6
  rw [hb7] at h7
  rw [hb6]
  rw [hb6] at hb7
  rw [hb7]
  have Hf := Lib.hid hf
  have H6 := Lib.hid h6
  have H7 := Lib.hid h7
  clear hf h6 h7 hsz hb6 hb7 hl7 hne
  go_loopw [8] (fun x wr => ∃ (i : Nat) (v : Value), x = .int .i64 i ∧ i ≤ S ∧ Hid (wr.heap[b6]? = some (.cells #[.int .i64 0, .slice none 0 0] 91 (0, 0))) ∧ Hid (wr.heap[b7]? = some (.cells #[.int .i64 lv, v] 91 (0, 0))) ∧ Hid (wr.ownsRow W.heap.size 3 1 v i (iv (List.replicate i k))) ∧ Hid (Fr [] w wr) ∧ Hid (W.heap.size ≤ wr.heap.size)) (fun x _ => S - (intOf x).toNat)
  case atStart => exact ⟨0, _, rfl, by omega, H6, H7, Lib.hid (World.ownsRow_nil _ _ _ _), Hf, Lib.hid (Nat.le_refl _)⟩
  case round =>
    obtain ⟨i, v, rfl, hi, G6, G7, HO, HF, HW⟩ := hrel
    clear H6 H7
    have c0 := heap_eq_cell G7.out 0
    have c1 := heap_eq_cell G7.out 1
    have z1 := heap_eq_frozen G7.out 1
    have l7 := lt_of_block G7.out
    obtain ⟨va, vc, rfl, _, _⟩ := owns_form HO.out
    by_cases hlt : i < S
    · have hWl := HW.out
      go_wp2_with (at_builtin; refine append_int (base := W.heap.size) (n := i) (l := List.replicate i k) (y := k) rfl rfl rfl rfl ?a1 ?a2 ?a3 ?a4 ?_)
      case a1 => exact owns_of_block HO.out fun y hy => heap_alloc_else _ _ _ (owns_lt HO.out hy)
      case a2 => first | (first | (rw [hp_alloc, if_pos rfl]; done) | exact (Array.getElem?_eq_some_iff.1 ((hp_alloc _ _ _).trans (if_pos rfl))).2 | (simp only [hp_drew, hp_drewN]; rw [hp_alloc, if_pos rfl]; done)) | (repeat (first | rw [if_pos (by omega)] | rw [if_neg (by omega)] | rw [hp_drew] | rw [hp_drewN] | rw [hp_alloc_size] | rw [hp_setCell_size] | rw [hp_alloc] | rw [hp_setCell] | rw [Option.map_some] | rw [upd_cells] | rw [List.set_cons_zero] | rw [List.set_cons_succ] | rfl))
      case a3 => omega
      case a4 => (first | omega | (simp only [hp_drew, hp_drewN, hp_alloc_size]; omega) | (simp; omega))
      intro v9 w9 hown hF9 hb9
      obtain ⟨a9, c9, rfl, _, _⟩ := owns_form hown
      have l6 := lt_of_block G6.out
      have hoff : ∀ b, b < W.heap.size → b ∉ (Value.slice va i vc).ownBlock.toList := fun b hb hx => by
        have := owns_ge HO.out (show (Value.slice va i vc).ownBlock = some b by simpa using hx)
        omega
      obtain ⟨s6, s7, s8, s9⟩ := HSZ.out
      have hl7 := HL7.out
      have h6 := (hF9.block b6 (by rw [hp_alloc_size]; omega) (hoff b6 s6)).trans ((heap_alloc_else _ _ _ l6).trans G6.out)
      have h7 := (hF9.block b7 (by rw [hp_alloc_size]; omega) (hoff b7 hl7)).trans ((heap_alloc_else _ _ _ l7).trans G7.out)
      have d1 := heap_eq_cell h7 1
      have y1 := heap_eq_frozen h7 1
      have e7 := lt_of_block h7
      have G6' := Lib.hid ((heap_setCell_else w9 ⟨b7, 1, none⟩ (.slice a9 (i + 1) c9) b6 s9).trans h6)
      have G7' := Lib.hid (heap_setCell_here h7 1 (.slice a9 (i + 1) c9))
      have HO' := Lib.hid (show (w9.setCell ⟨b7, 1, none⟩ (.slice a9 (i + 1) c9)).ownsRow W.heap.size 3 1 (.slice a9 (i + 1) c9) (i + 1) (iv (List.replicate (i + 1) k)) from owns_of_block (by rw [List.replicate_succ', ]; exact hown) fun y hy => heap_setCell_else _ _ _ _ (by have := owns_ge hown hy; intro e; have e : y = b7 := e; omega))
      have HF' := Lib.hid (show Fr [] w (w9.setCell ⟨b7, 1, none⟩ (.slice a9 (i + 1) c9)) from (Fr.trans (HF.out.alloc _) hF9 fun x hx => .inr (by
        have := owns_ge HO.out (show (Value.slice va i vc).ownBlock = some x by simpa using hx)
        omega)).setCell (.inr s8) _)
      have HW' := Lib.hid (show W.heap.size ≤ (w9.setCell ⟨b7, 1, none⟩ (.slice a9 (i + 1) c9)).heap.size by have := hF9.size; simp at this ⊢; omega)
      clear hown hF9 hb9 hoff s6 s7 s8 s9 hl7 h6 h7 c0 c1 z1 l7 G6 G7
      go_wp2
      go_roundw
      case rel => exact ⟨i + 1, _, by go_num, by omega, G6', G7', HO', HF', HW'⟩
      case measure => simp [intOf]; omega
    · obtain rfl : S = i := by omega
      have d0 := heap_eq_cell G6.out 0
      have d1 := heap_eq_cell G6.out 1
      have y0 := heap_eq_frozen G6.out 0
      have y1 := heap_eq_frozen G6.out 1
      have l6 := lt_of_block G6.out
      have HI := Lib.hid (show IntsAt wr (.slice va S vc) (List.replicate S k) from ints_of_owns (base := W.heap.size) (by rw [List.length_replicate]; exact HO.out))
      have HSZ2 := Lib.hid (HSZ.out.2.1)
      go_wp2
      have G := G6.out
      refine bodyPost_ret (node_result1 rfl (b := b6) (x := .int .i64 lv) (y := .slice va S vc) rfl ?_) rfl ⟨va, vc, rfl, ?_, fun g hg => ?_, ?_⟩
      · (repeat (first | rw [if_pos (by omega)] | rw [if_neg (by omega)] | rw [hp_drew] | rw [hp_drewN] | rw [hp_alloc_size] | rw [hp_setCell_size] | rw [hp_alloc] | rw [hp_setCell] | rw [Option.map_some] | rw [upd_cells] | rw [List.set_cons_zero] | rw [List.set_cons_succ] | rfl))
        rw [G]
        (repeat (first | rw [if_pos (by omega)] | rw [if_neg (by omega)] | rw [hp_drew] | rw [hp_drewN] | rw [hp_alloc_size] | rw [hp_setCell_size] | rw [hp_alloc] | rw [hp_setCell] | rw [Option.map_some] | rw [upd_cells] | rw [List.set_cons_zero] | rw [List.set_cons_succ] | rfl))
      · have hlo := HSZ.out.1
        refine Reads.keep HI.out fun x hx hlt => ?_
        have h9 := owns_ge HO.out hx
        (repeat (first | rw [if_pos (by omega)] | rw [if_neg (by omega)] | rw [hp_drew] | rw [hp_drewN] | rw [hp_alloc_size] | rw [hp_setCell_size] | rw [hp_alloc] | rw [hp_setCell] | rw [Option.map_some] | rw [upd_cells] | rw [List.set_cons_zero] | rw [List.set_cons_succ] | rfl))
      · have h9 := owns_ge HO.out hg
        have h8 := HSZ.out
        omega
      · have h9 := HSZ2.out
        have := HF.out
        (repeat (first | exact Fr.refl _ _ | assumption | apply Fr.drewN | apply Fr.drew | apply Fr.alloc | refine Fr.setCell ?_ (Or.inr (by simp; try omega)) _))
/-- a node is appended to a row of its own -/
theorem append_node {ops : Array Oper} {rest : List Oper} {o : Oper} {a : Act} {W : World} {Q : Exit → Act → World → Prop} (hgd : o.guard = none) {s x : Operand}
    (ho : o.op = .call { callee := .builtin .append, args := #[s, x], argTypes := #[29, 29] }) {base n : Nat} {v u : Value} {xs : List Value} {lv : Int} {nb c : Nat} (hs : a.eval s = v) (hx : a.eval x = .slice (some ⟨nb, 0, none⟩) 1 c)
    (hown : W.ownsRow base 91 2 v n xs) (hnb : W.heap[nb]? = some (.cells #[.int .i64 lv, u] 91 (0, 0))) (hu : u.oneCell' = true) (hlen : n ≤ 1000000) (hbase : base ≤ W.heap.size)
    (h : ∀ g cap w', w'.ownsRow base 91 2 (.slice (some ⟨g, 0, none⟩) (n + 1) cap) (n + 1) (xs ++ [.int .i64 lv, u]) → Fr v.ownBlock.toList W w' → (v.ownBlock = some g ∨ g = W.heap.size) → wpList Try.prog ops Q rest (a.put o.dst (.slice (some ⟨g, 0, none⟩) (n + 1) cap)) w') : wpList Try.prog ops Q (o :: rest) a W := by
  have hbig : n + 1 ≤ maxLen := by
    have : (1000001 : Nat) ≤ maxLen := by decide
    omega
  refine append_new hgd ho (base := base) (size := 2) (bytes := 32) (z := .agg #[.int .i64 0, .slice none 0 0]) (e := 91) Try.underlying29 (by kernel_rfl) rfl (by decide) hs hown hx hnb rfl (by intro z hz; simp at hz; rcases hz with rfl | rfl; rfl; exact hu) hbig (by omega) hbase ?_
  intro g cap w' h1 h2 h3 h4 h5
  exact h g cap w' h1 h3 h4
def rightNodes : List (Int × List Int) := [(1, [0, 1]), (2, [0, 0])]
def rightHood : List (Int × Int) := [(0, 0), (1, 0)]
def rightRule : Rule := ⟨2, rightHood, rightNodes⟩
theorem rightHood_ok : hoodR rightHood = true := by decide
set_option maxHeartbeats 8000000 in
set_option maxRecDepth 100000 in
theorem RRead_calls {w : World} {hb c : Nat} (hp : PtsAt w (.slice (some ⟨hb, 0, none⟩) 2 c) rightHood) :
    Calls Try.prog 39 #[.int .i64 2, .slice (some ⟨hb, 0, none⟩) 2 c, .int .i64 1] w fun e w' => ∃ na nc, e = .returned (.tuple #[.agg #[.int .i64 2, .slice (some ⟨hb, 0, none⟩) 2 c, .slice na 2 nc], .int .i64 0]) ∧ (∀ w2 : World, (∀ x, w.heap.size ≤ x → x < w'.heap.size → w2.heap[x]? = w'.heap[x]?) → NodesAt w2 (.slice na 2 nc) rightNodes) ∧ Fr [] w w' := by
  have HH := Lib.hid (fun w1 (hf : Fr [] w w1) => RHRight_calls (l := rightHood) (hp.fr hf) (by decide))
  rw [rightHood_ok, show rightHood.length = 2 from rfl] at HH
  clear hp
  go_enter Try.func39, Try.ntmps39
  go_wp2_with fail
  refine (HH.out _ (by (repeat (first | exact Fr.refl _ _ | assumption | apply Fr.drewN | apply Fr.drew | apply Fr.alloc | refine Fr.setCell ?_ (Or.inr (by simp; try omega)) _)))).mono ?_
  rintro e w1 ⟨rfl, hf⟩
  have hb_ := (hf.block (w.heap.size) (by first | (simp; done) | (simp; omega)) (by simp)).trans (show _ = some (.cells #[.int .i64 0, .slice none 0 0, .slice none 0 0] 31 (0, 0)) by (repeat (first | rw [if_pos (by omega)] | rw [if_neg (by omega)] | rw [hp_drew] | rw [hp_drewN] | rw [hp_alloc_size] | rw [hp_setCell_size] | rw [hp_alloc] | rw [hp_setCell] | rw [Option.map_some] | rw [upd_cells] | rw [List.set_cons_zero] | rw [List.set_cons_succ] | rfl)))
  have b0 := heap_eq_cell hb_ 0
  have b1 := heap_eq_cell hb_ 1
  have b2 := heap_eq_cell hb_ 2
  have bl := lt_of_block hb_
  have Hb := Lib.hid hb_
  clear hb_
  have Hf := Lib.hid (Fr.trans0 (by (repeat (first | exact Fr.refl _ _ | assumption | apply Fr.drewN | apply Fr.drew | apply Fr.alloc | refine Fr.setCell ?_ (Or.inr (by simp; try omega)) _)) : Fr [] w _) hf)
  clear hf
  go_wp2
  refine abs_world (fun W => Fr [] w W ∧ W.heap[w.heap.size]? = some (.cells #[.int .i64 0, .slice none 0 0, .slice none 0 0] 31 (0, 0)) ∧ W.heap[w1.heap.size]? = some (.cells #[.int .i64 2, .slice (some ⟨hb, 0, none⟩) 2 c, .slice none 0 0] 31 (0, 0)) ∧ W.heap[w1.heap.size + 1]? = some (.cells #[.int .i64 1, .slice none 0 0] 91 (0, 0)) ∧ W.heap.size = w1.heap.size + 2) ⟨by have := Hf.out; (repeat (first | exact Fr.refl _ _ | assumption | apply Fr.drewN | apply Fr.drew | apply Fr.alloc | refine Fr.setCell ?_ (Or.inr (by simp; try omega)) _)), by have := Hb.out; (repeat (first | rw [if_pos (by omega)] | rw [if_neg (by omega)] | rw [hp_drew] | rw [hp_drewN] | rw [hp_alloc_size] | rw [hp_setCell_size] | rw [hp_alloc] | rw [hp_setCell] | rw [Option.map_some] | rw [upd_cells] | rw [List.set_cons_zero] | rw [List.set_cons_succ] | rfl)); exact this, by (repeat (first | rw [if_pos (by omega)] | rw [if_neg (by omega)] | rw [hp_drew] | rw [hp_drewN] | rw [hp_alloc_size] | rw [hp_setCell_size] | rw [hp_alloc] | rw [hp_setCell] | rw [Option.map_some] | rw [upd_cells] | rw [List.set_cons_zero] | rw [List.set_cons_succ] | rfl)), by (repeat (first | rw [if_pos (by omega)] | rw [if_neg (by omega)] | rw [hp_drew] | rw [hp_drewN] | rw [hp_alloc_size] | rw [hp_setCell_size] | rw [hp_alloc] | rw [hp_setCell] | rw [Option.map_some] | rw [upd_cells] | rw [List.set_cons_zero] | rw [List.set_cons_succ] | rfl)), by simp⟩ ?_
  rintro W ⟨hf, h6, h8, h10, hsz⟩
  obtain ⟨b6, hb6⟩ : ∃ b, w.heap.size = b := ⟨_, rfl⟩
  obtain ⟨b8, hb8⟩ : ∃ b, w1.heap.size = b := ⟨_, rfl⟩
  obtain ⟨b10, hb10⟩ : ∃ b, b8 + 1 = b := ⟨_, rfl⟩
  have hw1 := Hf.out.size
  have HSZ := Lib.hid (show b6 < b8 ∧ b8 < b10 ∧ b10 < W.heap.size ∧ w.heap.size ≤ b6 by omega)
  rw [hb8] at h8 h10
  rw [hb10] at h10
  rw [hb6] at h6
  rw [hb6, hb8, hb10]
  have HW := Lib.hid hf
  have H6 := Lib.hid h6
  have H8 := Lib.hid h8
  have H10 := Lib.hid h10
  clear hf h6 h8 h10 hsz hb6 hb8 hb10 hw1 Hf Hb b0 b1 b2 bl
  go_loopw [11] (fun x wr => ∃ z : Int, x = .int .i64 z ∧ At3 (fun q => ∃ v, Hid (wr.heap[b10]? = some (.cells #[.int .i64 1, v] 91 (0, 0))) ∧ Hid (wr.ownsRow W.heap.size 3 1 v q (iv (([0, 1] : List Int).take q))) ∧ Hid (Fr [b10] W wr)) z) (fun x _ => 2 - (intOf x).toNat)
  case atStart => exact ⟨0, rfl, .inl ⟨rfl, _, H10, Lib.hid (World.ownsRow_nil _ _ _ _), Lib.hid (Fr.refl _ _)⟩⟩
  case round =>
    obtain ⟨z, rfl, hz⟩ := hrel
    clear H10
    rcases hz with ⟨rfl, v, G10, HO, HF⟩ | ⟨rfl, v, G10, HO, HF⟩ | ⟨rfl, v, G10, HO, HF⟩
    ·
      obtain ⟨va, vc, rfl, _, _⟩ := owns_form HO.out
      have c1 := heap_eq_cell G10.out 1
      have z1 := heap_eq_frozen G10.out 1
      have l10 := lt_of_block G10.out
      go_wp2
      go_loopw [12, 13] (fun x12 x13 wl => x12 = .int .i64 0 ∧ x13 = .int .i64 1 ∧ wl = wr) (fun _ _ _ => 0)
      case atStart => exact ⟨rfl, rfl, rfl⟩
      case round =>
        obtain ⟨rfl, rfl, rfl⟩ := hrel
        have hWl := HF.out.size
        go_wp2_with (at_builtin; refine append_int (base := W.heap.size) (n := 0) (l := ([0, 1] : List Int).take 0) (y := 0) rfl rfl rfl rfl ?a10 ?a20 ?a30 ?a40 ?_)
        case a10 => exact owns_of_block HO.out fun y hy => heap_alloc_else _ _ _ (owns_lt HO.out hy)
        case a20 => first | (first | (rw [hp_alloc, if_pos rfl]; done) | exact (Array.getElem?_eq_some_iff.1 ((hp_alloc _ _ _).trans (if_pos rfl))).2 | (simp only [hp_drew, hp_drewN]; rw [hp_alloc, if_pos rfl]; done)) | (repeat (first | rw [if_pos (by omega)] | rw [if_neg (by omega)] | rw [hp_drew] | rw [hp_drewN] | rw [hp_alloc_size] | rw [hp_setCell_size] | rw [hp_alloc] | rw [hp_setCell] | rw [Option.map_some] | rw [upd_cells] | rw [List.set_cons_zero] | rw [List.set_cons_succ] | rfl))
        case a30 => omega
        case a40 => (first | omega | (simp only [hp_drew, hp_drewN, hp_alloc_size]; omega) | (simp; omega))
        intro v9 w9 hown hF9 hb9
        obtain ⟨a9, c9, rfl, _, _⟩ := owns_form hown
        have hoff : b10 ∉ (Value.slice va 0 vc).ownBlock.toList := fun hx => by
          have := owns_ge HO.out (show (Value.slice va 0 vc).ownBlock = some b10 by simpa using hx)
          have := HSZ.out
          omega
        have h10 := (hF9.block b10 (by rw [hp_alloc_size]; omega) hoff).trans ((heap_alloc_else _ _ _ l10).trans G10.out)
        have d1 := heap_eq_cell h10 1
        have y1 := heap_eq_frozen h10 1
        have e10 := lt_of_block h10
        have G' := Lib.hid (heap_setCell_here h10 1 (.slice a9 (0 + 1) c9))
        have HO' := Lib.hid (show (w9.setCell ⟨b10, 1, none⟩ (.slice a9 (0 + 1) c9)).ownsRow W.heap.size 3 1 (.slice a9 (0 + 1) c9) (0 + 1) (iv (([0, 1] : List Int).take (0 + 1))) from owns_of_block hown fun y hy => heap_setCell_else _ _ _ _ (by have := owns_ge hown hy; have := HSZ.out; intro e; have e : y = b10 := e; omega))
        have HF' := Lib.hid (show Fr [b10] W (w9.setCell ⟨b10, 1, none⟩ (.slice a9 (0 + 1) c9)) from (Fr.trans (HF.out.alloc _) hF9 fun x hx => .inr (by
          exact owns_ge HO.out (show (Value.slice va 0 vc).ownBlock = some x by simpa using hx))).setCell (.inl (by simp)) _)
        clear hown hF9 hb9 hoff h10 c1 z1 l10 G10 HO HF
        go_wp2
        go_roundw
        case rel => exact ⟨1, rfl, (.inr (.inl ⟨rfl, _, G', HO', HF'⟩))⟩
        case measure => simp [intOf]
    ·
      obtain ⟨va, vc, rfl, _, _⟩ := owns_form HO.out
      have c1 := heap_eq_cell G10.out 1
      have z1 := heap_eq_frozen G10.out 1
      have l10 := lt_of_block G10.out
      go_wp2
      go_loopw [12, 13] (fun x12 x13 wl => x12 = .int .i64 1 ∧ x13 = .int .i64 1 ∧ wl = wr) (fun _ _ _ => 0)
      case atStart => exact ⟨rfl, rfl, rfl⟩
      case round =>
        obtain ⟨rfl, rfl, rfl⟩ := hrel
        have hWl := HF.out.size
        go_wp2_with (at_builtin; refine append_int (base := W.heap.size) (n := 1) (l := ([0, 1] : List Int).take 1) (y := 1) rfl rfl rfl rfl ?a11 ?a21 ?a31 ?a41 ?_)
        case a11 => exact owns_of_block HO.out fun y hy => heap_alloc_else _ _ _ (owns_lt HO.out hy)
        case a21 => first | (first | (rw [hp_alloc, if_pos rfl]; done) | exact (Array.getElem?_eq_some_iff.1 ((hp_alloc _ _ _).trans (if_pos rfl))).2 | (simp only [hp_drew, hp_drewN]; rw [hp_alloc, if_pos rfl]; done)) | (repeat (first | rw [if_pos (by omega)] | rw [if_neg (by omega)] | rw [hp_drew] | rw [hp_drewN] | rw [hp_alloc_size] | rw [hp_setCell_size] | rw [hp_alloc] | rw [hp_setCell] | rw [Option.map_some] | rw [upd_cells] | rw [List.set_cons_zero] | rw [List.set_cons_succ] | rfl))
        case a31 => omega
        case a41 => (first | omega | (simp only [hp_drew, hp_drewN, hp_alloc_size]; omega) | (simp; omega))
        intro v9 w9 hown hF9 hb9
        obtain ⟨a9, c9, rfl, _, _⟩ := owns_form hown
        have hoff : b10 ∉ (Value.slice va 1 vc).ownBlock.toList := fun hx => by
          have := owns_ge HO.out (show (Value.slice va 1 vc).ownBlock = some b10 by simpa using hx)
          have := HSZ.out
          omega
        have h10 := (hF9.block b10 (by rw [hp_alloc_size]; omega) hoff).trans ((heap_alloc_else _ _ _ l10).trans G10.out)
        have d1 := heap_eq_cell h10 1
        have y1 := heap_eq_frozen h10 1
        have e10 := lt_of_block h10
        have G' := Lib.hid (heap_setCell_here h10 1 (.slice a9 (1 + 1) c9))
        have HO' := Lib.hid (show (w9.setCell ⟨b10, 1, none⟩ (.slice a9 (1 + 1) c9)).ownsRow W.heap.size 3 1 (.slice a9 (1 + 1) c9) (1 + 1) (iv (([0, 1] : List Int).take (1 + 1))) from owns_of_block hown fun y hy => heap_setCell_else _ _ _ _ (by have := owns_ge hown hy; have := HSZ.out; intro e; have e : y = b10 := e; omega))
        have HF' := Lib.hid (show Fr [b10] W (w9.setCell ⟨b10, 1, none⟩ (.slice a9 (1 + 1) c9)) from (Fr.trans (HF.out.alloc _) hF9 fun x hx => .inr (by
          exact owns_ge HO.out (show (Value.slice va 1 vc).ownBlock = some x by simpa using hx))).setCell (.inl (by simp)) _)
        clear hown hF9 hb9 hoff h10 c1 z1 l10 G10 HO HF
        go_wp2
        go_roundw
        case rel => exact ⟨2, rfl, (.inr (.inr ⟨rfl, _, G', HO', HF'⟩))⟩
        case measure => simp [intOf]
    · obtain ⟨va, vc, rfl, _, _⟩ := owns_form HO.out
      have n0 := heap_eq_cell G10.out 0
      have n1 := heap_eq_cell G10.out 1
      have l10 := lt_of_block G10.out
      have hsz := HSZ.out
      have hWl := HF.out.size
      have h8 := (HF.out.block b8 (by omega) (by simp; omega)).trans H8.out
      have t2 := heap_eq_cell h8 2
      have y2 := heap_eq_frozen h8 2
      have l8 := lt_of_block h8
      have hi0 : IntsAt wr (.slice va 2 vc) [0, 1] := ints_of_owns (base := W.heap.size) HO.out
      have hv0 : ∀ g, (Value.slice va 2 vc).ownBlock = some g → g < wr.heap.size ∧ W.heap.size ≤ g := fun g hg => ⟨owns_lt HO.out hg, owns_ge HO.out hg⟩
      clear hsz
      go_wp2_with (at_builtin; refine append_node (base := wr.heap.size) (n := 0) (xs := []) (u := .slice va 2 vc) (lv := 1) rfl rfl rfl rfl ?b1 ?b2 rfl ?b3 ?b4 ?_)
      case b1 => exact World.ownsRow_nil _ _ _ _
      case b2 => first | (first | (rw [hp_alloc, if_pos rfl]; done) | exact (Array.getElem?_eq_some_iff.1 ((hp_alloc _ _ _).trans (if_pos rfl))).2 | (simp only [hp_drew, hp_drewN]; rw [hp_alloc, if_pos rfl]; done)) | (repeat (first | rw [if_pos (by omega)] | rw [if_neg (by omega)] | rw [hp_drew] | rw [hp_drewN] | rw [hp_alloc_size] | rw [hp_setCell_size] | rw [hp_alloc] | rw [hp_setCell] | rw [Option.map_some] | rw [upd_cells] | rw [List.set_cons_zero] | rw [List.set_cons_succ] | rfl))
      case b3 => omega
      case b4 => simp
      intro g1 cap1 w9 hown hF9 hb9
      have h8' := (hF9.block b8 (by rw [hp_alloc_size]; omega) (by simp [Value.ownBlock])).trans ((heap_alloc_else _ _ _ l8).trans h8)
      have d2 := heap_eq_cell h8' 2
      have x2 := heap_eq_frozen h8' 2
      have e8 := lt_of_block h8'
      have hi9 : IntsAt w9 (.slice va 2 vc) [0, 1] := (hi0.fr (by (repeat (first | exact Fr.refl _ _ | assumption | apply Fr.drewN | apply Fr.drew | apply Fr.alloc | refine Fr.setCell ?_ (Or.inr (by simp; try omega)) _)) : Fr [] wr (wr.alloc _))).fr hF9
      have hw9 := hF9.size
      rw [hp_alloc_size] at hw9
      have HST := Lib.hid (show Fr [b8, b10] W (w9.setCell ⟨b8, 2, none⟩ (.slice (some ⟨g1, 0, none⟩) 1 cap1)) ∧ (w9.setCell ⟨b8, 2, none⟩ (.slice (some ⟨g1, 0, none⟩) 1 cap1)).heap[b8]? = some (.cells #[.int .i64 2, .slice (some ⟨hb, 0, none⟩) 2 c, .slice (some ⟨g1, 0, none⟩) 1 cap1] 31 (0, 0)) ∧
          (w9.setCell ⟨b8, 2, none⟩ (.slice (some ⟨g1, 0, none⟩) 1 cap1)).ownsRow wr.heap.size 91 2 (.slice (some ⟨g1, 0, none⟩) 1 cap1) 1 [.int .i64 1, .slice va 2 vc] ∧ IntsAt (w9.setCell ⟨b8, 2, none⟩ (.slice (some ⟨g1, 0, none⟩) 1 cap1)) (.slice va 2 vc) [0, 1] from by
        have hsz := HSZ.out
        refine ⟨(((HF.out.mono (G := [b8, b10]) (by simp)).alloc _).trans hF9 (by simp [Value.ownBlock])).setCell (.inl (by simp)) _, heap_setCell_here h8' 2 _, owns_of_block hown fun y hy => heap_setCell_else _ _ _ _ ?_, Reads.keep hi9 fun x hx hlt => heap_setCell_else _ _ _ _ ?_⟩
        · have := owns_ge hown hy
          intro e
          have e : y = b8 := e
          omega
        · have := hv0 x hx
          intro e
          have e : x = b8 := e
          omega)
      have HV0 := Lib.hid hv0
      clear h8 t2 y2 l8 hi0 hv0 hown hF9 hb9 h8' hi9 n0 n1 l10 G10 HO HF H8
      go_wp2
      obtain ⟨W2, hW2⟩ : ∃ W2, w9.setCell ⟨b8, 2, none⟩ (.slice (some ⟨g1, 0, none⟩) 1 cap1) = W2 := ⟨_, rfl⟩
      rw [hW2] at HST ⊢
      have hsz2 : wr.heap.size < W2.heap.size := by rw [← hW2]; simp; omega
      clear hW2 d2 x2 e8 hw9
      obtain ⟨B2, hB2⟩ : ∃ B2, wr.heap.size = B2 := ⟨_, rfl⟩
      rw [hB2] at HST HV0 hsz2 hWl
      clear hB2
      go_loopw [14] (fun x wl => ∃ z : Int, x = .int .i64 z ∧ (z = 2 ∧ wl = W2 ∨ z = 3 ∧ ∃ g2 c2 ua uc, Hid (wl.heap[b8]? = some (.cells #[.int .i64 2, .slice (some ⟨hb, 0, none⟩) 2 c, .slice (some ⟨g2, 0, none⟩) 2 c2] 31 (0, 0))) ∧ Hid (wl.ownsRow B2 91 2 (.slice (some ⟨g2, 0, none⟩) 2 c2) 2 [.int .i64 1, .slice va 2 vc, .int .i64 2, .slice ua 2 uc]) ∧ Hid (IntsAt wl (.slice va 2 vc) [0, 1]) ∧ Hid (IntsAt wl (.slice ua 2 uc) [0, 0]) ∧ Hid (Fr [b8, b10] W wl) ∧ Hid (∀ g, (Value.slice ua 2 uc).ownBlock = some g → B2 ≤ g))) (fun x _ => 3 - (intOf x).toNat)
      case atStart => exact ⟨2, rfl, .inl ⟨rfl, rfl⟩⟩
      case round =>
        obtain ⟨z, rfl, ⟨rfl, hwl⟩ | ⟨rfl, g2, c2, ua, uc, HB, HO, HI, HI2, HFF, HUU⟩⟩ := hrel
        · subst hwl
          have hb8 := HST.out.2.1
          have t2 := heap_eq_cell hb8 2
          have y2 := heap_eq_frozen hb8 2
          have l8 := lt_of_block hb8
          clear hb8
          go_wp2
          refine wp_region_segs [([0, 1, 2, 3, 4, 5, 6, 7, 8], [1]), ([9, 10, 11, 12], [])] (by kernel_rfl) (by kernel_rfl) ?_
          (simp only [wpSegs, pick, Array.getD_eq_getD_getElem?, List.getElem?_toArray, List.getElem?_cons_succ, List.getElem?_cons_zero, Option.getD_some])
          go_wp2_with fail
          refine (RAll_calls (S := 2) (by omega) 2 0).mono ?_
          rintro e w5 ⟨ua, uc, rfl, hi, hub, hf⟩
          have hf5 : Fr [] wr w5 := Fr.trans0 (by (repeat (first | exact Fr.refl _ _ | assumption | apply Fr.drewN | apply Fr.drew | apply Fr.alloc | refine Fr.setCell ?_ (Or.inr (by simp; try omega)) _))) hf
          have h8 := (hf5.block b8 l8 (by simp)).trans HST.out.2.1
          have t2 := heap_eq_cell h8 2
          have y2 := heap_eq_frozen h8 2
          have l8' := lt_of_block h8
          have HST5 := Lib.hid (show Fr [b8, b10] W w5 ∧ w5.ownsRow B2 91 2 (.slice (some ⟨g1, 0, none⟩) 1 cap1) 1 [.int .i64 1, .slice va 2 vc] ∧ IntsAt w5 (.slice va 2 vc) [0, 1] from ⟨HST.out.1.trans0 hf5, owns_of_block HST.out.2.2.1 fun y hy => hf5.block y (owns_lt HST.out.2.2.1 hy) (by simp), HST.out.2.2.2.fr hf5⟩)
          have HU := Lib.hid hi
          have HUB := Lib.hid (show ∀ g, (Value.slice ua 2 uc).ownBlock = some g → g < w5.heap.size ∧ wr.heap.size ≤ g from fun g hg => by
            have hge := hub g hg
            simp only [hp_drew, hp_drewN] at hge
            obtain ⟨gg, oo, rfl, hg9, _⟩ := hi.cell (i := 0) (x := 0) rfl
            have : gg = g := by simpa [Value.ownBlock] using hg
            exact ⟨by omega, hge⟩)
          have hs5 := hf5.size
          have H85 := Lib.hid h8
          clear h8 hi hub hf hf5 l8
          go_wp2
          refine Mid.intro ⟨⟨again_cell (T := 29) rfl rfl rfl Try.underlying29 rfl t2 rfl, trivial⟩, ?_⟩
          go_wp2_with (at_builtin; refine append_node (base := B2) (n := 1) (xs := [.int .i64 1, .slice va 2 vc]) (u := .slice ua 2 uc) (lv := 2) rfl rfl rfl rfl ?c1 ?c2 rfl ?c3 ?c4 ?_)
          case c1 => exact owns_of_block HST5.out.2.1 fun y hy => heap_alloc_else _ _ _ (owns_lt HST5.out.2.1 hy)
          case c2 => first | (first | (rw [hp_alloc, if_pos rfl]; done) | exact (Array.getElem?_eq_some_iff.1 ((hp_alloc _ _ _).trans (if_pos rfl))).2 | (simp only [hp_drew, hp_drewN]; rw [hp_alloc, if_pos rfl]; done)) | (repeat (first | rw [if_pos (by omega)] | rw [if_neg (by omega)] | rw [hp_drew] | rw [hp_drewN] | rw [hp_alloc_size] | rw [hp_setCell_size] | rw [hp_alloc] | rw [hp_setCell] | rw [Option.map_some] | rw [upd_cells] | rw [List.set_cons_zero] | rw [List.set_cons_succ] | rfl))
          case c3 => omega
          case c4 => (first | omega | (simp only [hp_drew, hp_drewN, hp_alloc_size]; omega) | (simp; omega))
          intro g2 c2 w9 hown hF9 hb9
          have hg1 := owns_lt HST.out.2.2.1 (show (Value.slice (some ⟨g1, 0, none⟩) 1 cap1).ownBlock = some g1 from rfl)
          have hgB := owns_ge HST.out.2.2.1 (show (Value.slice (some ⟨g1, 0, none⟩) 1 cap1).ownBlock = some g1 from rfl)
          have hsz := HSZ.out
          have hn8 : b8 ∉ (Value.slice (some ⟨g1, 0, none⟩) 1 cap1).ownBlock.toList := by simp [Value.ownBlock]; omega
          have h8' := (hF9.block b8 (by rw [hp_alloc_size]; omega) hn8).trans ((heap_alloc_else _ _ _ l8').trans H85.out)
          have e2 := heap_eq_cell h8' 2
          have x2 := heap_eq_frozen h8' 2
          have e8 := lt_of_block h8'
          have hne : ∀ x, B2 ≤ x → x ≠ b8 := fun x hx e => by omega
          have hka : IntsAt w9 (.slice va 2 vc) [0, 1] := Reads.keep (HST5.out.2.2.fr (by (repeat (first | exact Fr.refl _ _ | assumption | apply Fr.drewN | apply Fr.drew | apply Fr.alloc | refine Fr.setCell ?_ (Or.inr (by simp; try omega)) _)) : Fr [] w5 (w5.alloc _))) fun x hx hlt => hF9.block x hlt (by have := HV0.out x hx; simp [Value.ownBlock]; omega)
          have hku : IntsAt w9 (.slice ua 2 uc) [0, 0] := Reads.keep (IntsAt.fr HU.out (by (repeat (first | exact Fr.refl _ _ | assumption | apply Fr.drewN | apply Fr.drew | apply Fr.alloc | refine Fr.setCell ?_ (Or.inr (by simp; try omega)) _)) : Fr [] w5 (w5.alloc _))) fun x hx hlt => hF9.block x hlt (by have := HUB.out x hx; simp [Value.ownBlock]; omega)
          have HUU := Lib.hid (show ∀ g, (Value.slice ua 2 uc).ownBlock = some g → B2 ≤ g from fun g hg => by have := HUB.out g hg; omega)
          have hfin0 : Fr [b8, b10] W w9 := (HST5.out.1.alloc _).trans hF9 fun x hx => .inr (by
            have : g1 = x := by have h := hx; simp [Value.ownBlock] at h; exact h.symm
            omega)
          have hfin : Fr [b8, b10] W (w9.setCell ⟨b8, 2, none⟩ (.slice (some ⟨g2, 0, none⟩) 2 c2)) := hfin0.setCell (.inl (by simp)) _
          have HREL := Lib.hid (show (w9.setCell ⟨b8, 2, none⟩ (.slice (some ⟨g2, 0, none⟩) 2 c2)).heap[b8]? = some (.cells #[.int .i64 2, .slice (some ⟨hb, 0, none⟩) 2 c, .slice (some ⟨g2, 0, none⟩) 2 c2] 31 (0, 0)) ∧ (w9.setCell ⟨b8, 2, none⟩ (.slice (some ⟨g2, 0, none⟩) 2 c2)).ownsRow B2 91 2 (.slice (some ⟨g2, 0, none⟩) 2 c2) 2 [.int .i64 1, .slice va 2 vc, .int .i64 2, .slice ua 2 uc] ∧
              IntsAt (w9.setCell ⟨b8, 2, none⟩ (.slice (some ⟨g2, 0, none⟩) 2 c2)) (.slice va 2 vc) [0, 1] ∧ IntsAt (w9.setCell ⟨b8, 2, none⟩ (.slice (some ⟨g2, 0, none⟩) 2 c2)) (.slice ua 2 uc) [0, 0] ∧ Fr [b8, b10] W (w9.setCell ⟨b8, 2, none⟩ (.slice (some ⟨g2, 0, none⟩) 2 c2)) from
            ⟨heap_setCell_here h8' 2 _, owns_of_block hown fun y hy => heap_setCell_else _ _ _ _ (hne y (owns_ge hown hy)), Reads.keep hka fun x hx hlt => heap_setCell_else _ _ _ _ (fun e => by have e : x = b8 := e; have := HV0.out x hx; omega), Reads.keep hku fun x hx hlt => heap_setCell_else _ _ _ _ (fun e => by have e : x = b8 := e; have := HUB.out x hx; omega), hfin⟩)
          clear hown hF9 hb9 hg1 hgB hsz hn8 h8' hne hka hku t2 y2 l8' hfin0 hfin
          go_wp2
          refine Mid.intro ⟨trivial, Strict.intro rfl ?_⟩
          go_wp2
          go_roundw
          case rel => exact ⟨3, rfl, .inr ⟨rfl, g2, c2, ua, uc, Lib.hid HREL.out.1, Lib.hid HREL.out.2.1, Lib.hid HREL.out.2.2.1, Lib.hid HREL.out.2.2.2.1, Lib.hid HREL.out.2.2.2.2, HUU⟩⟩
          case measure => simp [intOf]
        · have t0 := heap_eq_cell HB.out 0
          have t1 := heap_eq_cell HB.out 1
          have t2 := heap_eq_cell HB.out 2
          have l8 := lt_of_block HB.out
          have hsz := HSZ.out
          have h6 := (HFF.out.block b6 (by omega) (by simp; omega)).trans H6.out
          have s0 := heap_eq_cell h6 0
          have s1 := heap_eq_cell h6 1
          have s2 := heap_eq_cell h6 2
          have y0 := heap_eq_frozen h6 0
          have y1 := heap_eq_frozen h6 1
          have y2 := heap_eq_frozen h6 2
          have l6 := lt_of_block h6
          have G := Lib.hid h6
          have hg2 := owns_lt HO.out (show (Value.slice (some ⟨g2, 0, none⟩) 2 c2).ownBlock = some g2 from rfl)
          have hg2B := owns_ge HO.out (show (Value.slice (some ⟨g2, 0, none⟩) 2 c2).ownBlock = some g2 from rfl)
          have HG2 := Lib.hid (show g2 < wr.heap.size ∧ B2 ≤ g2 from ⟨hg2, hg2B⟩)
          have HREF := Lib.hid (show b6 < b8 ∧ w.heap.size ≤ b6 from ⟨by omega, by omega⟩)
          have HW6 := Lib.hid (show b6 < W.heap.size by omega)
          clear hsz h6 hg2 hg2B
          go_wp2
          have G' := G.out
          have hne : ∀ x, B2 ≤ x → x ≠ b6 := fun x hx e => by have := HW6.out; omega
          refine bodyPost_ret (tree_result2 rfl (b := b6) (x := .int .i64 2) (y := .slice (some ⟨hb, 0, none⟩) 2 c) (z := .slice (some ⟨g2, 0, none⟩) 2 c2) (v := .int .i64 0) rfl ?_ rfl) rfl ⟨_, c2, rfl, fun w2 hk2 => ?_, ?_⟩
          · (repeat (first | rw [if_pos (by omega)] | rw [if_neg (by omega)] | rw [hp_drew] | rw [hp_drewN] | rw [hp_alloc_size] | rw [hp_setCell_size] | rw [hp_alloc] | rw [hp_setCell] | rw [Option.map_some] | rw [upd_cells] | rw [List.set_cons_zero] | rw [List.set_cons_succ] | rfl))
            rw [G']
            (repeat (first | rw [if_pos (by omega)] | rw [if_neg (by omega)] | rw [hp_drew] | rw [hp_drewN] | rw [hp_alloc_size] | rw [hp_setCell_size] | rw [hp_alloc] | rw [hp_setCell] | rw [Option.map_some] | rw [upd_cells] | rw [List.set_cons_zero] | rw [List.set_cons_succ] | rfl))
          · have hk1 : ∀ y, W.heap.size ≤ y → y < wr.heap.size → w2.heap[y]? = wr.heap[y]? := fun y hy hy2 => by
              have h1 := HREF.out
              have h2 := HW6.out
              have h3 : y ≠ b6 := by omega
              exact (hk2 y (by omega) (by simp; exact hy2)).trans (by (repeat (first | rw [if_pos (by omega)] | rw [if_neg (by omega)] | rw [hp_drew] | rw [hp_drewN] | rw [hp_alloc_size] | rw [hp_setCell_size] | rw [hp_alloc] | rw [hp_setCell] | rw [Option.map_some] | rw [upd_cells] | rw [List.set_cons_zero] | rw [List.set_cons_succ] | rfl)))
            refine ⟨[.slice va 2 vc, .slice ua 2 uc], Reads.of_owns (base := B2) (e := 91) (owns_of_block HO.out fun y hy => hk1 y (by have := owns_ge HO.out hy; omega) (owns_lt HO.out hy)), fun i x hx => ?_⟩
            rcases i with _ | _ | i
            · obtain rfl := Option.some.inj hx
              exact ⟨_, rfl, Reads.keep HI.out fun x hx hlt => hk1 x (by have := HV0.out x hx; omega) hlt⟩
            · obtain rfl := Option.some.inj hx
              exact ⟨_, rfl, Reads.keep HI2.out fun x hx hlt => hk1 x (by have := HUU.out x hx; omega) hlt⟩
            · simp [rightNodes] at hx
          · have h1 := HREF.out
            have h2 : Fr [] w wr := HW.out.trans HFF.out fun x hx => .inr (by have := HSZ.out; simp at hx; rcases hx with rfl | rfl <;> omega)
            (repeat (first | exact Fr.refl _ _ | assumption | apply Fr.drewN | apply Fr.drew | apply Fr.alloc | refine Fr.setCell ?_ (Or.inr (by simp; try omega)) _))
end Go.Proofs.Ytppmnmheodimoaa
end
