/- The reference's lists of bits: Digits, Glue, Code. -/
import Derived.Test.YtfcihdicbncoaaaBs
namespace Go.Proofs.Ytfcihdicbncoaaa
open Go Go.RowKit Go.Proofs.Rg Go.Proofs.Hp Go.Proofs.Bp
def bos (l : List Bool) : List Value := l.map Value.bool
theorem info_bool : (Try.prog.info? 4).map (fun i => (i.zero, i.size, i.bytes)) = some (some (.bool false), 1, 1) := by kernel_rfl
/-- append of one bit -/
theorem append_bo {ops : Array Oper} {rest : List Oper} {o : Oper} {a : Act} {W : World} {Q : Exit → Act → World → Prop} (hgd : o.guard = none) {s x : Operand} (ho : o.op = .call { callee := .builtin .append, args := #[s, x], argTypes := #[27, 27] })
    {base : Nat} {v : Value} {n : Nat} {xs : List Value} (hs : a.eval s = v) (hown : W.ownsRow base 4 1 v n xs) {nb c : Nat} {y : Bool} (hx : a.eval x = .slice (some ⟨nb, 0, none⟩) 1 c)
    (hnb : W.heap[nb]? = some (.cells #[.bool y] 4 (0, 0))) (hn : n ≤ 4000000000000) (hbase : base ≤ W.heap.size)
    (h : ∀ g cap w', w'.ownsRow base 4 1 (.slice (some ⟨g, 0, none⟩) (n + 1) cap) (n + 1) (xs ++ [.bool y]) → (∀ b, b < W.heap.size → v.ownBlock ≠ some b → w'.heap[b]? = W.heap[b]?) → Fr v.ownBlock.toList W w' → (v.ownBlock = some g ∨ g = W.heap.size) → g < w'.heap.size →
      wpList Try.prog ops Q rest (a.put o.dst (.slice (some ⟨g, 0, none⟩) (n + 1) cap)) w') : wpList Try.prog ops Q (o :: rest) a W :=
  append_new hgd ho Try.underlying27 info_bool rfl (by decide) hs hown hx (news := [.bool y]) hnb rfl (by intro u hu; simp at hu; subst hu; rfl) (by unfold maxLen; omega) (by omega) hbase h
theorem bos_snoc (l : List Bool) (b : Bool) : bos (l ++ [b]) = bos l ++ [.bool b] := by simp [bos]
set_option maxHeartbeats 4000000 in
theorem Digits_calls {w : World} {v n : Nat} (hv : v < 18446744073709551616) (hn : n ≤ 64) :
    Calls Try.prog 39 #[.int .u64 v, .int .i64 n] w (RowPost w 4 n (bos (digits v n))) := by
  have Hv := Lib.hid hv
  clear hv
  go_enter Try.func39, Try.ntmps39
  go_wp2
  go_loopw [5, 6] (fun o x wl => ∃ (k : Nat), x = .int .i64 ((n : Int) - 1 - k) ∧ k ≤ n ∧ wl.ownsRow w.heap.size 4 1 o k (bos ((digits v n).take k)) ∧ Fr [] w wl) (fun _ x _ => (intOf x + 1).toNat)
  case atStart => exact ⟨0, by simp, by omega, World.ownsRow_nil _ _ _ _, Fr.refl _ _⟩
  case round =>
    obtain ⟨k, rfl, hk, ho, hf⟩ := hrel
    obtain ⟨oa, oc, rfl, _, _⟩ := owns_form ho
    have Ho := Lib.hid ho
    have Hf := Lib.hid hf
    have hsz := hf.size
    clear ho hf
    by_cases hlt : k < n
    · have hbit := bit_u64 (v := v) (j := n - 1 - k) Hv.out
      have hw1 : IntKind.u64.wrap ((n : Int) - 1 - k) = n - 1 - k := IntWalk.u64_in _ (by omega)
      have hsn : bos ((digits v n).take k) ++ [.bool (v.testBit (n - 1 - k))] = bos ((digits v n).take (k + 1)) := by rw [digits_take hlt, bos_snoc]
      generalize v.testBit (n - 1 - k) = bt at *
      have Hsn := Lib.hid hsn
      clear hsn
      go_wp2_with (at_builtin; refine append_bo (n := k) (base := w.heap.size) (xs := bos ((digits v n).take k)) (y := bt) rfl rfl rfl ?e1 rfl ?e2 ?e3 ?e4 ?_)
      case e1 => exact owns_of_block Ho.out fun y hy => heap_alloc_else _ _ _ (owns_lt Ho.out hy)
      case e2 => (repeat (first | rw [if_pos (by omega)] | rw [if_neg (by omega)] | rw [hp_drew] | rw [hp_drewN] | rw [hp_alloc_size] | rw [hp_setCell_size] | rw [hp_alloc] | rw [hp_setCell] | rw [Option.map_some] | rw [upd_cells] | rw [List.set_cons_zero] | rw [List.set_cons_succ] | rfl))
      case e3 => omega
      case e4 => simp; omega
      intro g cap w9 hown1 hW1 hF1 hloc1 hg1
      rw [Hsn.out] at hown1
      have Hown1 := Lib.hid hown1
      have Hf1 := Lib.hid (fr_append Hf.out Ho.out hF1)
      clear hown1 hW1 hF1 hloc1
      go_wp2
      go_roundw
      case rel => exact ⟨k + 1, by go_num, by omega, Hown1.out, Hf1.out⟩
      case measure => simp [intOf]; omega
    · obtain rfl : k = n := by omega
      go_wp2
      go_ret
      refine ⟨_, rfl, ?_, Hf.out⟩
      have := Ho.out
      rwa [List.take_of_length_le (by rw [digits_length]; omega)] at this
set_option maxHeartbeats 4000000 in
theorem Glue_calls {w : World} {v1 v2 : Value} {l1 l2 : List Bool} (h1 : Reads w v1 l1.length 1 (bos l1)) (h2 : Reads w v2 l2.length 1 (bos l2)) (hl1 : l1.length ≤ 1000000) (hl2 : l2.length ≤ 1000000) :
    Calls Try.prog 43 #[v1, v2] w (RowPost w 4 (l1 ++ l2).length (bos (l1 ++ l2))) := by
  obtain ⟨_, a1, c1, rfl, ha1⟩ := h1
  obtain ⟨_, a2, c2, rfl, ha2⟩ := h2
  have Ha1 := Lib.hid ha1
  have Ha2 := Lib.hid ha2
  clear ha1 ha2
  go_enter Try.func43, Try.ntmps43
  go_wp2
  go_loopw [5, 6] (fun o x wl => ∃ (k : Nat), x = .int .i64 k ∧ k ≤ l1.length ∧ wl.ownsRow w.heap.size 4 1 o k (bos (l1.take k)) ∧ Fr [] w wl) (fun _ x _ => l1.length - (intOf x).toNat)
  case atStart => exact ⟨0, rfl, by omega, World.ownsRow_nil _ _ _ _, Fr.refl _ _⟩
  case round =>
    obtain ⟨k, rfl, hk, ho, hf⟩ := hrel
    obtain ⟨oa, oc, rfl, _, _⟩ := owns_form ho
    have Ho := Lib.hid ho
    have Hf := Lib.hid hf
    have hsz := hf.size
    clear ho hf
    by_cases hlt : k < l1.length
    · obtain ⟨g1, off1, rfl, hg1, hc1⟩ := Ha1.out (by omega)
      obtain ⟨bt, hbt⟩ : ∃ x, l1[k]? = some x := ⟨_, List.getElem?_eq_getElem hlt⟩
      have e1 := (Hf.out.cell (p := ⟨g1, off1 + k, none⟩) hg1 (by simp)).trans (hc1 k (.bool bt) (by rw [bos, List.getElem?_map, hbt]; rfl))
      have hsn : bos (l1.take k) ++ [.bool bt] = bos (l1.take (k + 1)) := by rw [List.take_add_one, hbt, ← bos_snoc]; rfl
      have Hsn := Lib.hid hsn
      have hg1r : g1 < wr.heap.size := by omega
      clear hc1 hbt hsn
      go_wp2_with (at_builtin; refine append_bo (n := k) (base := w.heap.size) (xs := bos (l1.take k)) (y := bt) rfl rfl rfl ?e1 rfl ?e2 ?e3 ?e4 ?_)
      case e1 => exact owns_of_block Ho.out fun y hy => heap_alloc_else _ _ _ (owns_lt Ho.out hy)
      case e2 => (repeat (first | rw [if_pos (by omega)] | rw [if_neg (by omega)] | rw [hp_drew] | rw [hp_drewN] | rw [hp_alloc_size] | rw [hp_setCell_size] | rw [hp_alloc] | rw [hp_setCell] | rw [Option.map_some] | rw [upd_cells] | rw [List.set_cons_zero] | rw [List.set_cons_succ] | rfl))
      case e3 => omega
      case e4 => simp; omega
      intro g cap w9 hown1 hW1 hF1 hloc1 hg1
      rw [Hsn.out] at hown1
      have Hown1 := Lib.hid hown1
      have Hf1 := Lib.hid (fr_append Hf.out Ho.out hF1)
      clear hown1 hW1 hF1 hloc1
      go_wp2
      go_roundw
      case rel => exact ⟨k + 1, by go_num, by omega, Hown1.out, Hf1.out⟩
      case measure => simp [intOf]; omega
    · obtain rfl : k = l1.length := by omega
      obtain ⟨wo, rfl⟩ : ∃ wo : World, wo = wr := ⟨_, rfl⟩
      have ho2 := Ho.out
      rw [List.take_length] at ho2
      have Ho2 := Lib.hid ho2
      clear ho2
      go_wp2
      go_loopw [5, 7] (fun o x wl => ∃ (k : Nat), x = .int .i64 k ∧ k ≤ l2.length ∧ wl.ownsRow w.heap.size 4 1 o (l1.length + k) (bos (l1 ++ l2.take k)) ∧ Fr [] w wl) (fun _ x _ => l2.length - (intOf x).toNat)
      case atStart => exact ⟨0, rfl, by omega, by simpa using Ho2.out, Hf.out⟩
      case round =>
        obtain ⟨k, rfl, hk, ho, hf⟩ := hrel
        obtain ⟨ob, od, rfl, _, _⟩ := owns_form ho
        have Ho3 := Lib.hid ho
        have Hf3 := Lib.hid hf
        have hsz := hf.size
        clear ho hf
        by_cases hlt : k < l2.length
        · obtain ⟨g1, off1, rfl, hg1, hc1⟩ := Ha2.out (by omega)
          obtain ⟨bt, hbt⟩ : ∃ x, l2[k]? = some x := ⟨_, List.getElem?_eq_getElem hlt⟩
          have e1 := (Hf3.out.cell (p := ⟨g1, off1 + k, none⟩) hg1 (by simp)).trans (hc1 k (.bool bt) (by rw [bos, List.getElem?_map, hbt]; rfl))
          have hsn : bos (l1 ++ l2.take k) ++ [.bool bt] = bos (l1 ++ l2.take (k + 1)) := by rw [List.take_add_one, hbt, ← bos_snoc, List.append_assoc]; rfl
          have Hsn := Lib.hid hsn
          have hg1r : g1 < wr.heap.size := by omega
          clear hc1 hbt hsn
          go_wp2_with (at_builtin; refine append_bo (n := l1.length + k) (base := w.heap.size) (xs := bos (l1 ++ l2.take k)) (y := bt) rfl rfl rfl ?e1 rfl ?e2 ?e3 ?e4 ?_)
          case e1 => exact owns_of_block Ho3.out fun y hy => heap_alloc_else _ _ _ (owns_lt Ho3.out hy)
          case e2 => (repeat (first | rw [if_pos (by omega)] | rw [if_neg (by omega)] | rw [hp_drew] | rw [hp_drewN] | rw [hp_alloc_size] | rw [hp_setCell_size] | rw [hp_alloc] | rw [hp_setCell] | rw [Option.map_some] | rw [upd_cells] | rw [List.set_cons_zero] | rw [List.set_cons_succ] | rfl))
          case e3 => omega
          case e4 => simp; omega
          intro g cap w9 hown1 hW1 hF1 hloc1 hg1
          rw [Hsn.out] at hown1
          have Hown1 := Lib.hid hown1
          have Hf1 := Lib.hid (fr_append Hf3.out Ho3.out hF1)
          clear hown1 hW1 hF1 hloc1
          go_wp2
          go_roundw
          case rel => exact ⟨k + 1, by go_num, by omega, Hown1.out, Hf1.out⟩
          case measure => simp [intOf]; omega
        · obtain rfl : k = l2.length := by omega
          go_wp2
          go_ret
          refine ⟨_, rfl, ?_, Hf3.out⟩
          have := Ho3.out
          rw [List.take_length] at this
          rwa [List.length_append]
end Go.Proofs.Ytfcihdicbncoaaa
