/- Bytes: append of one, slices.Reverse, the text of bytes. -/
import Derived.Test.YtbacamboknmppaaDoorJm
import Derived.Laws.BytesArg
namespace Go.Proofs.YtbacamboknmppaaDoor
open Go Go.RowKit Go.Proofs.Rg Go.Proofs.Hp Go.Proofs.Bn
set_option linter.unusedVariables false
set_option linter.unusedSimpArgs false
def u8s (l : List Nat) : List Value := l.map fun (n : Nat) => Value.int .u8 n
theorem u8s_length (l : List Nat) : (u8s l).length = l.length := by simp [u8s]
theorem u8s_snoc (l : List Nat) (d : Nat) : u8s l ++ [.int .u8 d] = u8s (l ++ [d]) := by simp [u8s]
theorem u8s_reverse (l : List Nat) : (u8s l).reverse = u8s l.reverse := by simp [u8s]
theorem info_u8 : (Tryd.prog.info? 5).map (fun i => (i.zero, i.size, i.bytes)) = some (some (.int .u8 0), 1, 1) := by kernel_rfl
/-- append of one byte -/
theorem append_u8 {ops : Array Oper} {rest : List Oper} {o : Oper} {a : Act} {W : World} {Q : Exit → Act → World → Prop} (hgd : o.guard = none) {s x : Operand} (ho : o.op = .call { callee := .builtin .append, args := #[s, x], argTypes := #[69, 69] })
    {base : Nat} {v : Value} {n : Nat} {xs : List Value} (hs : a.eval s = v) (hown : W.ownsRow base 5 1 v n xs) {nb c : Nat} {y : Int} (hx : a.eval x = .slice (some ⟨nb, 0, none⟩) 1 c)
    (hnb : W.heap[nb]? = some (.cells #[.int .u8 y] 5 (0, 0))) (hn : n ≤ 4000000000000) (hbase : base ≤ W.heap.size)
    (h : ∀ g cap w', w'.ownsRow base 5 1 (.slice (some ⟨g, 0, none⟩) (n + 1) cap) (n + 1) (xs ++ [.int .u8 y]) → (∀ b, b < W.heap.size → v.ownBlock ≠ some b → w'.heap[b]? = W.heap[b]?) → Fr v.ownBlock.toList W w' → (v.ownBlock = some g ∨ g = W.heap.size) → g < w'.heap.size →
      wpList Tryd.prog ops Q rest (a.put o.dst (.slice (some ⟨g, 0, none⟩) (n + 1) cap)) w') : wpList Tryd.prog ops Q (o :: rest) a W :=
  append_new hgd ho Tryd.underlying69 info_u8 rfl (by decide) hs hown hx (news := [.int .u8 y]) hnb rfl (by intro u hu; simp at hu; subst hu; rfl) (by unfold maxLen; omega) (by omega) hbase h
/-- half of a list turned round -/
def Turned (xs cur : List Value) (n i : Nat) : Prop := cur.length = n ∧ ∀ t, t < n → cur[t]? = if t < i ∨ n ≤ t + i then xs[n - 1 - t]? else xs[t]?
theorem Turned.done {xs cur : List Value} {n i : Nat} (hx : xs.length = n) (h : Turned xs cur n i) (hi : n ≤ 2 * i + 1) : cur = xs.reverse := by
  obtain ⟨h1, h2⟩ := h
  apply List.ext_getElem?
  intro t
  by_cases ht : t < n
  · rw [h2 t ht, List.getElem?_reverse (by omega), hx]
    split
    · rfl
    · congr 1; omega
  · rw [List.getElem?_eq_none (by omega), List.getElem?_eq_none (by simp; omega)]
theorem Turned.step {xs cur : List Value} {n i j : Nat} {x y : Value} (hx : xs.length = n) (h : Turned xs cur n i) (hij : i < j) (hj : j + i + 1 = n) (h1 : xs[i]? = some x) (h2 : xs[j]? = some y) : Turned xs ((cur.set i y).set j x) n (i + 1) := by
  obtain ⟨hl, hc⟩ := h
  refine ⟨by simpa using hl, fun t ht => ?_⟩
  by_cases htj : t = j
  · subst htj
    rw [List.getElem?_set_self (by simp; omega), if_pos (by omega), ← h1]
    congr 1; omega
  · rw [List.getElem?_set_ne (fun e => htj e.symm)]
    by_cases hti : t = i
    · subst hti
      rw [List.getElem?_set_self (by omega), if_pos (by omega), ← h2]
      congr 1; omega
    · rw [List.getElem?_set_ne (fun e => hti e.symm), hc t ht]
      by_cases hh : t < i ∨ n ≤ t + i
      · rw [if_pos hh, if_pos (by omega)]
      · rw [if_neg hh, if_neg (by omega)]
theorem Turned.here {xs cur : List Value} {n i j : Nat} (h : Turned xs cur n i) (hij : i < j) (hj : j + i + 1 = n) : cur[i]? = xs[i]? ∧ cur[j]? = xs[j]? := by
  obtain ⟨hl, hc⟩ := h
  refine ⟨?_, ?_⟩
  · rw [hc i (by omega), if_neg (by omega)]
  · rw [hc j (by omega), if_neg (by omega)]
set_option maxHeartbeats 4000000 in
set_option maxRecDepth 100000 in
theorem Reverse_calls {w : World} {base n g c : Nat} {ns : List Nat} (ho : w.ownsRow base 5 1 (.slice (some ⟨g, 0, none⟩) n c) n (u8s ns)) (hn : n ≤ 1000000000) :
    Calls Tryd.prog 57 #[.slice (some ⟨g, 0, none⟩) n c] w fun e w' => e = .returned (.tuple #[]) ∧ w'.ownsRow base 5 1 (.slice (some ⟨g, 0, none⟩) n c) n (u8s ns.reverse) ∧ Fr [g] w w' := by
  have hxl : (u8s ns).length = n := by have := ho.1; omega
  have Hxl := Lib.hid hxl
  have Ho := Lib.hid ho
  clear hxl ho
  go_enter Tryd.func57, Tryd.ntmps57
  go_wp2
  go_loopw [2, 3] (fun x2 x3 wl => ∃ (i : Nat) (z : Int) (cur : List Value), x2 = .int .i64 i ∧ x3 = .int .i64 z ∧ z = (n : Int) - 1 - i ∧ i ≤ n ∧ Turned (u8s ns) cur n i ∧ wl.ownsRow base 5 1 (.slice (some ⟨g, 0, none⟩) n c) n cur ∧ Fr [g] w wl) (fun x2 _ _ => n - (intOf x2).toNat)
  case atStart => exact ⟨0, (n : Int) - 1, u8s ns, rfl, rfl, by omega, by omega, ⟨Hxl.out, fun t ht => by rw [if_neg (by omega)]⟩, Ho.out, Fr.refl _ _⟩
  case round =>
    obtain ⟨i, z, cur, rfl, rfl, hz, hi, hT, ho, hf⟩ := hrel
    have HT := Lib.hid hT
    have Ho2 := Lib.hid ho
    have Hf := Lib.hid hf
    clear hT ho hf
    by_cases hij : (i : Int) < z
    · obtain ⟨j, rfl⟩ : ∃ j : Nat, z = j := ⟨z.toNat, by omega⟩
      have hjn : j + i + 1 = n := by omega
      obtain ⟨e1, e2⟩ := HT.out.here (i := i) (j := j) (by omega) hjn
      obtain ⟨p, hp⟩ : ∃ p, ns[i]? = some p := ⟨_, List.getElem?_eq_getElem (by have := Hxl.out; rw [u8s_length] at this; omega)⟩
      obtain ⟨q, hq⟩ : ∃ q, ns[j]? = some q := ⟨_, List.getElem?_eq_getElem (by have := Hxl.out; rw [u8s_length] at this; omega)⟩
      have hp' : (u8s ns)[i]? = some (.int .u8 p) := by rw [u8s, List.getElem?_map, hp]; rfl
      have hq' : (u8s ns)[j]? = some (.int .u8 q) := by rw [u8s, List.getElem?_map, hq]; rfl
      rw [hp'] at e1
      rw [hq'] at e2
      have c1 := owns_cell Ho2.out rfl e1
      have c2 := owns_cell Ho2.out rfl e2
      have z1 := owns_frozen Ho2.out rfl i
      have z2 := owns_frozen Ho2.out rfl j
      have hgl := owns_lt Ho2.out rfl
      have HT2 := Lib.hid (HT.out.step Hxl.out (by omega) hjn hp' hq')
      have hcl := HT.out.1
      have Hcl := Lib.hid hcl
      have hlt : decide (i < j) = true := by simp; omega
      have hi1 : i < n := by omega
      have hijn : i < j := by omega
      have hj1 : j < n := by omega
      have Hjn := Lib.hid hjn
      clear hz hjn hij e1 e2 hp hq hp' hq' hcl
      go_wp2
      (refine wp_region_text (by kernel_rfl) (by kernel_rfl) ?_)
      go_wp2
      refine Strict.intro rfl ?_
      go_wp2
      go_roundw
      case rel => exact ⟨i + 1, (j : Int) - 1, _, by go_num, by go_num, by have := Hjn.out; omega, by omega, HT2.out, owns_set (owns_set (owns_of_block (w' := wr.drew) Ho2.out (fun g _ => rfl)) rfl (j := i) (by have := Hcl.out; omega) (.int .u8 q)) rfl (j := j) (by have := Hcl.out; rw [List.length_set]; omega) (.int .u8 p), (Hf.out.drew.setCell (.inl (by simp)) _).setCell (.inl (by simp)) _⟩
      case measure => simp [intOf]; omega
    · have hfin := HT.out.done Hxl.out (by omega)
      have Hfin := Lib.hid hfin
      have hlt : decide ((i : Int) < z) = false := by simpa using hij
      clear hfin
      go_wp2
      refine bodyPost_end (results_none rfl _ _ _) rfl ⟨rfl, ?_, Hf.out⟩
      have := Ho2.out
      rwa [Hfin.out, u8s_reverse] at this
end Go.Proofs.YtbacamboknmppaaDoor
