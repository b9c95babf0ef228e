/- The reference of big integers: lists of bytes; Right, trim, digit, bytes. -/
import Derived.Test.YtbacamboknmppaaDoorJp
namespace Go.Proofs.Bn
theorem low_high (P d : Nat) : P * (d % 256) + P * 256 * (d / 256) = P * d := by
  have h1 := Nat.mod_add_div d 256
  rw [Nat.mul_assoc, ← Nat.mul_add, h1]
end Go.Proofs.Bn
namespace Go.Proofs.YtbacamboknmppaaDoor
open Go Go.RowKit Go.Proofs.Rg Go.Proofs.Hp Go.Proofs.Bn
set_option linter.unusedVariables false
set_option linter.unusedSimpArgs false
def i64s (l : List Nat) : List Value := l.map fun (n : Nat) => Value.int .i64 n
theorem i64s_length (l : List Nat) : (i64s l).length = l.length := by simp [i64s]
theorem i64s_get {l : List Nat} {i : Nat} (h : i < l.length) : (i64s l)[i]? = some (.int .i64 (l.getD i 0 : Nat)) := by
  rw [i64s, List.getElem?_map, List.getElem?_eq_getElem h, List.getD_eq_getElem?_getD, List.getElem?_eq_getElem h]; rfl
theorem i64s_snoc (l : List Nat) (d : Nat) : i64s l ++ [.int .i64 d] = i64s (l ++ [d]) := by simp [i64s]
theorem i64s_set (l : List Nat) (i d : Nat) : i64s (l.set i d) = (i64s l).set i (.int .i64 (d : Nat)) := by unfold i64s; rw [List.map_set]
theorem i64s_zero (n : Nat) : i64s (List.replicate n 0) = List.replicate n (.int .i64 0) := by simp [i64s]
theorem info_i64 : (Tryd.prog.info? 3).map (fun i => (i.zero, i.size, i.bytes)) = some (some (.int .i64 0), 1, 8) := by kernel_rfl
/-- append of one int -/
theorem append_i64 {ops : Array Oper} {rest : List Oper} {o : Oper} {a : Act} {W : World} {Q : Exit → Act → World → Prop} (hgd : o.guard = none) {s x : Operand} (ho : o.op = .call { callee := .builtin .append, args := #[s, x], argTypes := #[50, 50] })
    {base : Nat} {v : Value} {n : Nat} {xs : List Value} (hs : a.eval s = v) (hown : W.ownsRow base 3 1 v n xs) {nb c : Nat} {y : Int} (hx : a.eval x = .slice (some ⟨nb, 0, none⟩) 1 c)
    (hnb : W.heap[nb]? = some (.cells #[.int .i64 y] 3 (0, 0))) (hn : n ≤ 4000000000000) (hbase : base ≤ W.heap.size)
    (h : ∀ g cap w', w'.ownsRow base 3 1 (.slice (some ⟨g, 0, none⟩) (n + 1) cap) (n + 1) (xs ++ [.int .i64 y]) → (∀ b, b < W.heap.size → v.ownBlock ≠ some b → w'.heap[b]? = W.heap[b]?) → Fr v.ownBlock.toList W w' → (v.ownBlock = some g ∨ g = W.heap.size) → g < w'.heap.size →
      wpList Tryd.prog ops Q rest (a.put o.dst (.slice (some ⟨g, 0, none⟩) (n + 1) cap)) w') : wpList Tryd.prog ops Q (o :: rest) a W :=
  append_new hgd ho Tryd.underlying50 info_i64 rfl (by decide) hs hown hx (news := [.int .i64 y]) hnb rfl (by intro u hu; simp at hu; subst hu; rfl) (by unfold maxLen; omega) (by omega) hbase h
/-- what a function that returns a list of bytes leaves -/
def ListPost (w : World) (A : Nat → Prop) (ds : List Nat) (e : Ending) (w' : World) : Prop :=
  ∃ a c, (ds.length ≤ c ∧ ∀ g, (Value.slice a ds.length c).ownBlock = some g → A g) ∧ e = .returned (.slice a ds.length c) ∧ Reads w' (.slice a ds.length c) ds.length 1 (i64s ds) ∧ Fr [] w w'
set_option maxHeartbeats 2000000 in
theorem RRight_calls {w : World} {neg : Bool} {ds : List Nat} {v : Value} (hv : Reads w v ds.length 1 (u32s ds)) (hl : ds.length ≤ 1000000) :
    Calls Tryd.prog 18 #[.agg #[.bool neg, v]] w fun e w' => e = .returned (.bool (RightB neg ds)) ∧ Fr [] w w' := by
  obtain ⟨_, a, c, rfl, hav⟩ := hv
  have Hav := Lib.hid hav
  clear hav
  by_cases h0 : ds.length = 0
  · have hd : decide ((ds.length : Int) = 0) = true := by simp [h0]
    have hR : RightB neg ds = !neg := by unfold RightB; rw [if_pos h0]
    have HR := Lib.hid hR
    obtain rfl := List.eq_nil_of_length_eq_zero h0
    clear h0 hR hd
    go_enter Tryd.func18, Tryd.ntmps18
    go_wp2
    go_ret
    exact ⟨by rw [HR.out]; rfl, by (repeat (first | exact Fr.refl _ _ | assumption | apply Fr.drewN | apply Fr.drew | apply Fr.alloc | refine Fr.setCell ?_ (Or.inr (by simp; try omega)) _))⟩
  · obtain ⟨g, off, rfl, hg, hc⟩ := Hav.out (by omega)
    have hcz := hc (ds.length - 1) _ (u32s_get (by omega))
    have hd : ((ds.length : Int) == 0) = false := by rw [beq_eq_false_iff_ne]; omega
    have hp1 : (1 : Int) ≤ ds.length := by omega
    have hp2 : (ds.length : Int) - 1 < ds.length := by omega
    by_cases h64 : ds.length ≤ 64
    · have hd2 : decide ((ds.length : Int) ≤ 64) = true := by simp; omega
      have hR : RightB neg ds = (((ds.getD (ds.length - 1) 0 : Nat) : Int) != 0) := by
        unfold RightB; rw [if_neg h0, Bool.eq_iff_iff]; simp; omega
      have HR := Lib.hid hR
      have H0 := Lib.hid h0
      generalize ds.getD (ds.length - 1) 0 = y at *
      clear h0 hR hc
      go_enter Tryd.func18, Tryd.ntmps18
      go_wp2
      go_ret
      exact ⟨by rw [HR.out]; rfl, by (repeat (first | exact Fr.refl _ _ | assumption | apply Fr.drewN | apply Fr.drew | apply Fr.alloc | refine Fr.setCell ?_ (Or.inr (by simp; try omega)) _))⟩
    · have hd2 : decide ((ds.length : Int) ≤ 64) = false := by simp; omega
      have hR : RightB neg ds = false := by
        unfold RightB; rw [if_neg h0, Bool.eq_iff_iff]; simp; omega
      have HR := Lib.hid hR
      have H0 := Lib.hid h0
      clear h0 hcz hR hc
      go_enter Tryd.func18, Tryd.ntmps18
      go_wp2
      go_ret
      exact ⟨by rw [HR.out]; rfl, by (repeat (first | exact Fr.refl _ _ | assumption | apply Fr.drewN | apply Fr.drew | apply Fr.alloc | refine Fr.setCell ?_ (Or.inr (by simp; try omega)) _))⟩
/-- a byte, and 0 beyond the end -/
theorem rdigit_calls {w : World} {ds : List Nat} {v : Value} (hv : Reads w v ds.length 1 (i64s ds)) (hl : ds.length ≤ 1000000) (i : Nat) :
    Calls Tryd.prog 41 #[v, .int .i64 i] w fun e w' => e = .returned (.int .i64 (ds.getD i 0 : Nat)) ∧ w = w' := by
  obtain ⟨_, a, c, rfl, hav⟩ := hv
  by_cases h : i < ds.length
  · obtain ⟨g, off, rfl, hg, hc⟩ := hav (by omega)
    have hcz := hc i _ (i64s_get h)
    clear hc hav
    generalize ds.getD i 0 = y at *
    go_enter Tryd.func41, Tryd.ntmps41
    go_wp2
    go_ret
    exact ⟨rfl, rfl⟩
  · have h0 : ds.getD i 0 = 0 := by rw [List.getD_eq_getElem?_getD, List.getElem?_eq_none (by omega)]; rfl
    rw [h0]
    clear h0 hav
    go_enter Tryd.func41, Tryd.ntmps41
    go_wp2
    go_ret
    exact ⟨rfl, rfl⟩
/-- a list of bytes without zeros on top, in the same place -/
theorem reads_trim' {w : World} {ds : List Nat} {a : Option Addr} {c : Nat} (hv : Reads w (.slice a ds.length c) ds.length 1 (i64s ds)) (hD : Dig 256 ds) (c' : Nat) :
    Reads w (.slice a (dg 256 (val 256 ds)).length c') (dg 256 (val 256 ds)).length 1 (i64s (dg 256 (val 256 ds))) ∧ (dg 256 (val 256 ds)).length ≤ ds.length := by
  obtain ⟨k, hk, hkt⟩ := trimL_prefix (by omega : 2 ≤ 256) ds.length rfl hD
  have hkl : (trimL 256 ds).length = k := by rw [hkt, List.length_take, Nat.min_eq_left hk]
  have hr := Reads.take hv hk
  have hu : (i64s ds).take k = i64s (dg 256 (val 256 ds)) := by rw [i64s, i64s, ← List.map_take, ← hkt]; rfl
  rw [hu] at hr
  have e : (dg 256 (val 256 ds)).length = k := hkl
  rw [e]
  obtain ⟨h1, a', c2, he, h2⟩ := hr
  cases he
  exact ⟨⟨h1, _, _, rfl, h2⟩, hk⟩
set_option maxHeartbeats 2000000 in
theorem trim_calls0 {w : World} {ds : List Nat} {a : Option Addr} {c : Nat} (hv : Reads w (.slice a ds.length c) ds.length 1 (i64s ds)) (hD : Dig 256 ds) (hl : ds.length ≤ 1000000) (hc : ds.length ≤ c) :
    Calls Tryd.prog 60 #[.slice a ds.length c] w fun e w' => e = .returned (.slice a (trimL 256 ds).length (trimL 256 ds).length) ∧ w = w' := by
  obtain ⟨_, a', c', he, hav⟩ := hv
  cases he
  have Hav := Lib.hid hav
  have HD := Lib.hid hD
  clear hav hD
  obtain ⟨n, hn⟩ : ∃ n, ds.length = n := ⟨_, rfl⟩
  rw [hn] at hl hc ⊢
  rw [hn] at Hav
  have Hn := Lib.hid hn
  clear hn
  go_enter Tryd.func60, Tryd.ntmps60
  go_wp2
  go_loop [3] (fun x => ∃ k : Nat, k ≤ n ∧ x = .int .i64 k ∧ trimL 256 (ds.take k) = trimL 256 ds) (fun x => (intOf x).toNat)
  case atStart => exact ⟨n, Nat.le_refl _, rfl, by rw [← Hn.out, List.take_length]⟩
  case round =>
    obtain ⟨k, hk, rfl, hT⟩ := hrel
    have HT := Lib.hid hT
    clear hT
    cases k with
    | zero =>
      have e : (trimL 256 ds).length = 0 := by rw [← HT.out, List.take_zero, trimL_nil]; rfl
      go_wp2
      go_ret
      exact ⟨rfl, rfl⟩
    | succ k =>
      obtain ⟨g, off, rfl, hg, hcc⟩ := Hav.out (by omega)
      have hkn : k < ds.length := by have := Hn.out; omega
      have hcz := hcc k _ (i64s_get hkn)
      have htk : ds.take (k + 1) = ds.take k ++ [ds.getD k 0] := by
        rw [List.take_add_one, List.getElem?_eq_getElem (by omega), List.getD_eq_getElem?_getD, List.getElem?_eq_getElem (by omega)]; rfl
      have Htk := Lib.hid htk
      clear hcc htk hkn
      obtain ⟨y, hy⟩ : ∃ y, y = ds.getD k 0 := ⟨_, rfl⟩
      rw [← hy] at hcz Htk
      have Hy := Lib.hid hy
      clear hy
      by_cases hz : y = 0
      · subst hz
        go_wp2
        go_round
        case rel => exact ⟨k, by omega, by go_num, by have := HT.out; rwa [Htk.out, trimL_zero] at this⟩
        case measure => simp [intOf]
      · have hb : ((y : Int) == 0) = false := by rw [beq_eq_false_iff_ne]; omega
        have Hz := Lib.hid hz
        clear hz
        have e : (trimL 256 ds).length = k + 1 := by
          have hT := HT.out
          have hD := HD.out.take (k + 1)
          rw [Htk.out] at hT hD
          rw [trimL_canon (by omega) hD (canon_snoc Hz.out)] at hT
          rw [← hT, List.length_append, List.length_take, Nat.min_eq_left (by have := Hn.out; omega)]
          rfl
        have E := Lib.hid e
        clear e
        go_wp2
        go_ret
        exact ⟨by rw [E.out]; rfl, rfl⟩
end Go.Proofs.YtbacamboknmppaaDoor
