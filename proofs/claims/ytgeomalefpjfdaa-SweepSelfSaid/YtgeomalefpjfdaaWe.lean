/- Needed of package sweep. -/
import Derived.Test.YtgeomalefpjfdaaWa
namespace Go.Proofs.Ytgeomalefpjfdaa
open Go Go.RowKit Go.Proofs.Rg Go.Proofs.Mp Go.Proofs.Hp Go.Proofs.Qs
set_option linter.unusedVariables false
theorem info_i64 : (Try.prog.info? 3).map (fun i => (i.zero, i.size, i.bytes)) = some (some (.int .i64 0), 1, 8) := by kernel_rfl
/-- append of one number -/
theorem append_i64 {ops : Array Oper} {rest : List Oper} {o : Oper} {a : Act} {W : World} {Q : Exit → Act → World → Prop} (hgd : o.guard = none) {s x : Operand} (ho : o.op = .call { callee := .builtin .append, args := #[s, x], argTypes := #[25, 25] })
    {base : Nat} {v : Value} {n : Nat} {xs : List Value} (hs : a.eval s = v) (hown : W.ownsRow base 3 1 v n xs) {nb c : Nat} {y : Int} (hx : a.eval x = .slice (some ⟨nb, 0, none⟩) 1 c)
    (hnb : W.heap[nb]? = some (.cells #[.int .i64 y] 3 (0, 0))) (hn : n ≤ 4000000000000) (hbase : base ≤ W.heap.size)
    (h : ∀ g cap w', w'.ownsRow base 3 1 (.slice (some ⟨g, 0, none⟩) (n + 1) cap) (n + 1) (xs ++ [.int .i64 y]) → (∀ b, b < W.heap.size → v.ownBlock ≠ some b → w'.heap[b]? = W.heap[b]?) → Fr v.ownBlock.toList W w' → (v.ownBlock = some g ∨ g = W.heap.size) → g < w'.heap.size →
      wpList Try.prog ops Q rest (a.put o.dst (.slice (some ⟨g, 0, none⟩) (n + 1) cap)) w') : wpList Try.prog ops Q (o :: rest) a W :=
  append_new hgd ho Try.underlying25 info_i64 rfl (by decide) hs hown hx (news := [.int .i64 y]) hnb rfl (by intro u hu; simp at hu; subst hu; rfl) (by unfold maxLen; omega) (by omega) hbase h
theorem i64s_snoc (l : List Int) (b : Int) : i64s (l ++ [b]) = i64s l ++ [.int .i64 b] := by simp [i64s]
/-- which numbers roots need -/
def needs (s : Int) (ns : List K4) (roots : List Int) : Option (List Int) := (marks s ns roots).map fun m => nl m (s + ns.length).toNat
def NeedPost (w : World) (s : Int) (ns : List K4) (roots : List Int) (e : Ending) (w' : World) : Prop :=
  (marks s ns roots = none → e = .returned (.tuple #[.slice none 0 0, .int .i64 13]) ∧ Fr [] w w') ∧
  ∀ m, marks s ns roots = some m → ∃ v, e = .returned (.tuple #[v, .int .i64 0]) ∧ w'.ownsRow w.heap.size 3 1 v (nl m (s + ns.length).toNat).length (i64s (nl m (s + ns.length).toNat)) ∧ Fr [] w w'
theorem Needed_nil (rv : Value) (w : World) : Calls Try.prog 11 #[.pointer none, rv] w fun e w' => e = .returned (.tuple #[.slice none 0 0, .int .i64 1]) ∧ Fr [] w w' := by
  go_enter Try.func11, Try.ntmps11
  go_wp2
  go_ret2
  exact ⟨rfl, by (repeat (first | exact Fr.refl _ _ | assumption | apply Fr.drewN | apply Fr.drew | apply Fr.alloc | refine Fr.setCell ?_ (Or.inr (by simp; try omega)) _))⟩
set_option maxHeartbeats 16000000 in
set_option maxRecDepth 100000 in
theorem Needed_calls {w : World} {b : Nat} {s : Int} {ns : List K4} {F : List Nat} {rv : Value} {roots : List Int} (hS : StoreAt w b s ns F) (hr : Reads w rv roots.length 1 (i64s roots)) (hlr : roots.length ≤ 1000000) :
    Calls Try.prog 11 #[.pointer (some ⟨b, 0, none⟩), rv] w (NeedPost w s ns roots) := by
  have Hg := Lib.hid hS.1
  have HS := Lib.hid hS
  have Hr := Lib.hid hr
  have HLR := Lib.hid hlr
  have hs1 := hS.1.1
  have hs2 := hS.1.2.1
  have hln := hS.1.2.2.1
  clear hS hr hlr
  go_enter Try.func11, Try.ntmps11
  go_wp2_with fail
  refine (Data_calls HS.out).mono ?_
  rintro e w1 ⟨v, rfl, ho, hf⟩
  have Ho := Lib.hid ho
  have Hf := Lib.hid hf
  clear ho hf
  go_wp2_with fail
  refine (marked_calls Hg.out (Reads.of_owns Ho.out) (Hr.out.fr Hf.out) HLR.out).mono ?_
  rintro e w2 ⟨h1, h2⟩
  have H1 := Lib.hid h1
  have H2 := Lib.hid h2
  clear h1 h2
  cases hm : marks s ns roots with
  | none =>
    obtain ⟨rfl, h2⟩ := H1.out hm
    have Hf2 := Lib.hid (Hf.out.trans0 h2)
    have Hm := Lib.hid hm
    clear h2 hm
    go_wp2
    go_ret2
    exact ⟨fun _ => ⟨rfl, Hf2.out⟩, fun m h => (by rw [Hm.out] at h; cases h)⟩
  | some m =>
    obtain ⟨mv, rfl, ho2, h2⟩ := H2.out m hm
    obtain ⟨hml, _⟩ := marks_marked Hg.out hm
    have Hf2 := Lib.hid (Hf.out.trans0 h2)
    have Hm := Lib.hid hm
    obtain ⟨ma, mc, rfl, hma, _⟩ := owns_form ho2
    have Ho2 := Lib.hid ho2
    have Hma := Lib.hid hma
    clear h2 hm ho2 hma
    have Hml := Lib.hid hml
    have hmb : m.length ≤ 200000 := by omega
    clear hml
    go_wp2
    go_loopw [8, 25] (fun o x wl => ∃ (k : Nat), x = .int .i64 k ∧ k ≤ m.length ∧ wl.ownsRow w2.heap.size 3 1 o (nl m k).length (i64s (nl m k)) ∧ Fr [] w2 wl) (fun _ x _ => m.length - (intOf x).toNat)
    case atStart => exact ⟨0, rfl, by omega, World.ownsRow_nil _ _ _ _, Fr.refl _ _⟩
    case round =>
      obtain ⟨k, rfl, hk, ho, hf⟩ := hrel
      obtain ⟨oa, oc, rfl, _, _⟩ := owns_form ho
      have Ho3 := Lib.hid ho
      have Hf3 := Lib.hid hf
      have hsz := hf.size
      have hnl := nl_length m k
      have hnls := nl_succ m k
      by_cases hlt : k < m.length
      · obtain ⟨g1, hg1⟩ := Hma.out (by omega)
        subst hg1
        have hc := owns_cell Ho2.out rfl (j := k) (u := .bool (at' m k)) (by
          rw [bos, List.getElem?_map, List.getElem?_eq_getElem hlt]
          unfold at'
          rw [List.getD_eq_getElem?_getD, show ((k : Int)).toNat = k from rfl, List.getElem?_eq_getElem hlt]; rfl)
        have e1 := (hf.cell (p := ⟨g1, k, none⟩) (owns_lt Ho2.out rfl) (by simp)).trans hc
        have hg1r : g1 < wr.heap.size := by have := owns_lt Ho2.out (show _ = some g1 from rfl); omega
        have hszw := Hf2.out.size
        clear ho hf hc
        generalize at' m k = bt at *
        cases bt
        · have Hnls := Lib.hid hnls
          clear hnls
          go_wp2
          go_roundw
          case rel => exact ⟨k + 1, by go_num, by omega, by rw [Hnls.out]; exact Ho3.out, Hf3.out⟩
          case measure => simp [intOf]; omega
        · have hsn : i64s (nl m k) ++ [.int .i64 (k : Int)] = i64s (nl m (k + 1)) := by rw [hnls, if_pos rfl, i64s_snoc]
          have Hsn := Lib.hid hsn
          have hll : (nl m (k + 1)).length = (nl m k).length + 1 := by rw [hnls, if_pos rfl, List.length_append]; rfl
          have Hll := Lib.hid hll
          clear hnls hsn hll
          go_wp2_with (at_builtin; refine append_i64 (n := (nl m k).length) (base := w2.heap.size) (xs := i64s (nl m k)) (y := k) rfl rfl rfl ?e1 rfl ?e2 ?e3 ?e4 ?_)
          case e1 => exact owns_of_block Ho3.out fun y hy => heap_alloc_else _ _ _ (owns_lt Ho3.out hy)
          case e2 => (first | (rw [hp_alloc, if_pos rfl]; done) | exact (Array.getElem?_eq_some_iff.1 ((hp_alloc _ _ _).trans (if_pos rfl))).2 | (simp only [hp_drew, hp_drewN]; rw [hp_alloc, if_pos rfl]; done))
          case e3 => omega
          case e4 => (first | omega | (rw [hp_alloc_size]; omega) | (simp only [hp_drew, hp_drewN, hp_alloc_size]; omega) | (simp; omega))
          intro g cap w9 hown1 hW1 hF1 hloc1 hg9
          rw [Hsn.out] at hown1
          have Hown1 := Lib.hid hown1
          have Hf1 := Lib.hid (fr_append Hf3.out Ho3.out hF1)
          clear hown1 hW1 hF1 hloc1
          go_wp2
          go_roundw
          case rel => exact ⟨k + 1, by go_num, by omega, by rw [Hll.out]; exact Hown1.out, Hf1.out⟩
          case measure => simp [intOf]; omega
      · obtain rfl : k = m.length := by omega
        go_wp2
        go_ret2
        have hmN : m.length = (s + ns.length).toNat := by have := Hml.out; omega
        refine ⟨fun h => (by rw [Hm.out] at h; cases h), fun m' h => ?_⟩
        rw [Hm.out] at h
        cases h
        exact ⟨_, rfl, by rw [← hmN]; exact owns_base Ho3.out Hf2.out.size, Hf2.out.trans0 Hf3.out⟩
end Go.Proofs.Ytgeomalefpjfdaa
