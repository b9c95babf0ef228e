/- Own texts of this claim, part 16: no condition. -/
import Derived.Test.YtppmnmheodimoaaZM11
import Derived.Test.YtppmnmheodimoaaZM7
import Derived.Test.YtppmnmheodimoaaZM4
set_option linter.unusedVariables false
set_option linter.unusedSimpArgs false
section
/- Empty, Load, Right of package quad. -/
namespace Go.Proofs.Ytppmnmheodimoaa
set_option linter.unusedVariables false
set_option linter.unusedSimpArgs false
open Go Go.RowKit Go.Proofs.Rg Go.Proofs.Mp Go.Proofs.Hp Go.Proofs.Qs
def four (id : Int) : K4 := ⟨id, id, id, id⟩
/-- the empty nodes that are there -/
def climb (s : Int) (ns : List K4) : Nat → Int → Nat → Int × Nat
  | 0, id, n => (id, n)
  | m + 1, id, n => match ns.idxOf? (four id) with
    | some i => climb s ns m (s + i) (n + 1)
    | none => (id, n)
/-- empty nodes laid one on the other -/
def grow (s : Int) : Nat → Int → List K4 → Int × List K4
  | 0, id, ns => (id, ns)
  | m + 1, id, ns => grow s m (join s ns (four id)).1.1 (join s ns (four id)).2
def emptyQ (s : Int) (ns : List K4) (level : Int) : (Int × Int) × List K4 :=
  if level < 0 ∨ 256 < level then ((0, 18), ns)
  else if 100000 < ns.length + (level.toNat - (climb s ns level.toNat 0 0).2) then ((0, 6), ns)
  else (((grow s (level.toNat - (climb s ns level.toNat 0 0).2) (climb s ns level.toNat 0 0).1 ns).1, 0), (grow s (level.toNat - (climb s ns level.toNat 0 0).2) (climb s ns level.toNat 0 0).1 ns).2)
theorem climb_le {s : Int} {ns : List K4} : ∀ (m : Nat) (id : Int) (n : Nat), (climb s ns m id n).2 ≤ n + m
  | 0, id, n => by simp [climb]
  | m + 1, id, n => by
    unfold climb
    split
    · have := climb_le (s := s) (ns := ns) m (s + ‹Nat›) (n + 1); omega
    · simp
/-- what a call of a store that returns two numbers leaves -/
def TwoPost (w : World) (b : Nat) (s : Int) (r : (Int × Int) × List K4) (F : List Nat) (e : Ending) (w' : World) : Prop :=
  e = .returned (.tuple #[.int .i64 r.1.1, .int .i64 r.1.2]) ∧ ∃ F', StoreAt w' b s r.2 F' ∧ Fr F w w' ∧ (∀ x ∈ F', x ∈ F ∨ w.heap.size ≤ x)
theorem TwoPost.same {w w' : World} {b : Nat} {s : Int} {ns : List K4} {F : List Nat} {r e : Int} (hS : StoreAt w b s ns F) (hf : Fr [] w w') : TwoPost w b s ((r, e), ns) F (.returned (.tuple #[.int .i64 r, .int .i64 e])) w' :=
  ⟨rfl, F, hS.fr hf (by simp), hf.mono (by simp), fun x hx => .inl hx⟩
theorem kv_four (id : Int) : (Value.agg #[.int .i64 id, .int .i64 id, .int .i64 id, .int .i64 id]) = kv (four id) := rfl
set_option maxHeartbeats 4000000 in
theorem Empty_calls {w : World} {b : Nat} {s : Int} {ns : List K4} {F : List Nat} (hS : StoreAt w b s ns F) (level : Int) :
    Calls Try.prog 41 #[.pointer (some ⟨b, 0, none⟩), .int .i64 level] w (TwoPost w b s (emptyQ s ns level) F) := by
  by_cases hneg : level < 0
  · have : emptyQ s ns level = ((0, 18), ns) := by unfold emptyQ; rw [if_pos (.inl hneg)]
    rw [this]
    have hd : decide (level < 0) = true := by simpa using hneg
    go_enter Try.func41, Try.ntmps41
    go_wp2
    go_ret2
    exact TwoPost.same hS (Fr.refl _ _)
  · by_cases hbig : 256 < level
    · have : emptyQ s ns level = ((0, 18), ns) := by unfold emptyQ; rw [if_pos (.inr hbig)]
      rw [this]
      have hd : decide (level < 0) = false := by simpa using hneg
      go_enter Try.func41, Try.ntmps41
      go_wp2
      go_ret2
      exact TwoPost.same hS (Fr.refl _ _)
    · obtain ⟨L, rfl⟩ : ∃ L : Nat, level = L := ⟨level.toNat, by omega⟩
      have hL : L ≤ 256 := by omega
      have hSk := hS
      obtain ⟨hgood, nv, lv, mb, hI, rfl⟩ := hS
      obtain ⟨na, nc, rfl, hx1⟩ := owns_form hI.nodes
      have hlen : ns.length ≤ 100000 := hgood.2.2.1
      have hs1 : 2 ≤ s := hgood.1
      have hs2 : s ≤ 8 := hgood.2.1
      have b0 := heap_eq_cell hI.blk 0
      have b1 := heap_eq_cell hI.blk 1
      have b3 := heap_eq_cell hI.blk 3
      have hE : emptyQ s ns L = if 100000 < ns.length + (L - (climb s ns L 0 0).2) then ((0, 6), ns) else (((grow s (L - (climb s ns L 0 0).2) (climb s ns L 0 0).1 ns).1, 0), (grow s (L - (climb s ns L 0 0).2) (climb s ns L 0 0).1 ns).2) := by
        unfold emptyQ; rw [if_neg (by omega)]; rfl
      have HE := Lib.hid hE
      have HI := Lib.hid hI
      have Hlen := Lib.hid hlen
      clear hx1 hE hI hlen
      have hlen2 : ns.length ≤ 1048576 := by have := Hlen.out; omega
      go_enter Try.func41, Try.ntmps41
      go_wp2
      go_loop [6, 7] (fun x y => ∃ (id : Int) (n : Nat), x = .int .i64 id ∧ y = .int .i64 n ∧ n ≤ L ∧ climb s ns (L - n) id n = climb s ns L 0 0) (fun _ y => L - (intOf y).toNat)
      case atStart => exact ⟨0, 0, rfl, rfl, by omega, by simp⟩
      case round =>
        obtain ⟨id, n, rfl, rfl, hn, hc⟩ := hrel
        have Hc := Lib.hid hc
        clear hc
        by_cases hlt : n < L
        · cases hfind : ns.idxOf? (four id) with
          | some i =>
            go_wp2_with (at_lookup; refine wpList_lookup_hit (f := kv) (g := Value.int .i64) (k := four id) (z := .int .i64 0) rfl rfl rfl rfl (HI.out.known) Try.underlying105 keys4 (zero_int _) (find_hit hfind) ?_)
            go_round
            case rel => exact ⟨s + i, n + 1, rfl, by go_num, by omega, by rw [← Hc.out, show L - n = (L - (n + 1)) + 1 by omega, climb, hfind]⟩
            case measure => simp [intOf]; omega
          | none =>
            have hp : climb s ns L 0 0 = (id, n) := by rw [← Hc.out, show L - n = (L - (n + 1)) + 1 by omega, climb, hfind]
            have HP := Lib.hid hp
            clear hp
            by_cases hfull : 100000 < ns.length + (L - n)
            · have hd2 : (100000 : Int) - (↑L - ↑n) < ns.length := by omega
              have Hfull := Lib.hid hfull
              clear hfull
              go_wp2_with (at_lookup; refine wpList_lookup_miss (f := kv) (g := Value.int .i64) (k := four id) (z := .int .i64 0) rfl rfl rfl rfl (HI.out.known) Try.underlying105 keys4 (zero_int _) (find_miss hfind) ?_)
              go_ret2
              have hQ := HE.out
              rw [HP.out] at hQ
              rw [if_pos Hfull.out] at hQ
              rw [hQ]
              exact TwoPost.same hSk (by (repeat (first | exact Fr.refl _ _ | assumption | apply Fr.drewN | apply Fr.drew | apply Fr.alloc | refine Fr.setCell ?_ (Or.inr (by simp; try omega)) _)))
            · have hd2 : (ns.length : Int) ≤ 100000 - (↑L - ↑n) := by omega
              have Hfull := Lib.hid hfull
              clear hfull
              have hQ := HE.out
              rw [HP.out] at hQ
              rw [if_neg Hfull.out] at hQ
              have HQ := Lib.hid hQ
              clear hQ
              go_wp2_with (at_lookup; refine wpList_lookup_miss (f := kv) (g := Value.int .i64) (k := four id) (z := .int .i64 0) rfl rfl rfl rfl (HI.out.known) Try.underlying105 keys4 (zero_int _) (find_miss hfind) ?_)
              go_loopw [6, 7] (fun x y wr => ∃ (id' : Int) (n' : Nat) (ns' : List K4) (F' : List Nat), x = .int .i64 id' ∧ y = .int .i64 n' ∧ n' ≤ L ∧ grow s (L - n') id' ns' = grow s (L - n) id ns ∧ StoreAt wr b s ns' F' ∧
                Fr (foot b (.slice na ns.length nc) lv mb) w wr ∧ (∀ x ∈ F', x ∈ foot b (.slice na ns.length nc) lv mb ∨ w.heap.size ≤ x)) (fun _ y _ => L - (intOf y).toNat)
              case atStart => exact ⟨id, n, ns, _, rfl, rfl, hn, rfl, hSk, Fr.refl _ _, fun x hx => .inl hx⟩
              case round =>
                obtain ⟨id', n', ns', F', rfl, rfl, hn', hg, hS', hf', hF'⟩ := hrel
                have Hg := Lib.hid hg
                have Hf := Lib.hid hf'
                have HF := Lib.hid hF'
                clear hg hf' hF'
                by_cases hlt' : n' < L
                · have hJ : Calls Try.prog 40 #[.pointer (some ⟨b, 0, none⟩), .int .i64 id', .int .i64 id', .int .i64 id', .int .i64 id'] wr (JoinPost wr b s ns' F' (four id')) := Join_calls hS' (four id')
                  have hgs : grow s (L - n') id' ns' = grow s (L - (n' + 1)) (join s ns' (four id')).1.1 (join s ns' (four id')).2 := by
                    rw [show L - n' = (L - (n' + 1)) + 1 by omega]; rfl
                  have Hgs := Lib.hid hgs
                  clear hgs
                  go_wp2_with fail
                  refine hJ.mono ?_
                  rintro e w1 ⟨rfl, F2, hS2, hf2, hF2⟩
                  clear hJ
                  have Hf2 := Lib.hid hf2
                  have HF2 := Lib.hid hF2
                  clear hf2 hF2
                  go_wp2
                  go_roundw
                  case rel =>
                    refine ⟨_, n' + 1, (join s ns' (four id')).2, F2, rfl, by go_num, by omega, Hgs.out.symm.trans Hg.out, hS2, Hf.out.trans Hf2.out HF.out, fun x hx => ?_⟩
                    rcases HF2.out x hx with h | h
                    · exact HF.out x h
                    · right; have := Hf.out.size; omega
                  case measure => simp [intOf]; omega
                · obtain rfl : n' = L := by omega
                  go_wp2
                  go_ret2
                  have hg0 := Hg.out
                  rw [show grow s (n' - n') id' ns' = (id', ns') from by rw [Nat.sub_self]; rfl] at hg0
                  rw [HQ.out, ← hg0]
                  exact ⟨rfl, F', hS', Hf.out, HF.out⟩
        · obtain rfl : n = L := by omega
          have hp : climb s ns n 0 0 = (id, n) := by rw [← Hc.out, Nat.sub_self, climb]
          have HP := Lib.hid hp
          clear hp
          by_cases hfull : 100000 < ns.length + (n - n)
          · have hd2 : (100000 : Int) - (↑n - ↑n) < ns.length := by omega
            have Hfull := Lib.hid hfull
            clear hfull
            go_wp2
            go_ret2
            have hQ := HE.out
            rw [HP.out] at hQ
            rw [if_pos Hfull.out] at hQ
            rw [hQ]
            exact TwoPost.same hSk (by (repeat (first | exact Fr.refl _ _ | assumption | apply Fr.drewN | apply Fr.drew | apply Fr.alloc | refine Fr.setCell ?_ (Or.inr (by simp; try omega)) _)))
          · have hd2 : (ns.length : Int) ≤ 100000 - (↑n - ↑n) := by omega
            have Hfull := Lib.hid hfull
            clear hfull
            have hQ := HE.out
            rw [HP.out] at hQ
            rw [if_neg Hfull.out] at hQ
            have HQ := Lib.hid hQ
            clear hQ
            go_wp2
            go_loopw [6, 7] (fun x y wr => ∃ (id' : Int) (n' : Nat) (ns' : List K4) (F' : List Nat), x = .int .i64 id' ∧ y = .int .i64 n' ∧ n' ≤ n ∧ grow s (n - n') id' ns' = grow s (n - n) id ns ∧ StoreAt wr b s ns' F' ∧
              Fr (foot b (.slice na ns.length nc) lv mb) w wr ∧ (∀ x ∈ F', x ∈ foot b (.slice na ns.length nc) lv mb ∨ w.heap.size ≤ x)) (fun _ y _ => n - (intOf y).toNat)
            case atStart => exact ⟨id, n, ns, _, rfl, rfl, hn, rfl, hSk, Fr.refl _ _, fun x hx => .inl hx⟩
            case round =>
              obtain ⟨id', n', ns', F', rfl, rfl, hn', hg, hS', hf', hF'⟩ := hrel
              have Hg := Lib.hid hg
              have Hf := Lib.hid hf'
              have HF := Lib.hid hF'
              clear hg hf' hF'
              by_cases hlt' : n' < n
              · have hJ : Calls Try.prog 40 #[.pointer (some ⟨b, 0, none⟩), .int .i64 id', .int .i64 id', .int .i64 id', .int .i64 id'] wr (JoinPost wr b s ns' F' (four id')) := Join_calls hS' (four id')
                have hgs : grow s (n - n') id' ns' = grow s (n - (n' + 1)) (join s ns' (four id')).1.1 (join s ns' (four id')).2 := by
                  rw [show n - n' = (n - (n' + 1)) + 1 by omega]; rfl
                have Hgs := Lib.hid hgs
                clear hgs
                go_wp2_with fail
                refine hJ.mono ?_
                rintro e w1 ⟨rfl, F2, hS2, hf2, hF2⟩
                clear hJ
                have Hf2 := Lib.hid hf2
                have HF2 := Lib.hid hF2
                clear hf2 hF2
                go_wp2
                go_roundw
                case rel =>
                  refine ⟨_, n' + 1, (join s ns' (four id')).2, F2, rfl, by go_num, by omega, Hgs.out.symm.trans Hg.out, hS2, Hf.out.trans Hf2.out HF.out, fun x hx => ?_⟩
                  rcases HF2.out x hx with h | h
                  · exact HF.out x h
                  · right; have := Hf.out.size; omega
                case measure => simp [intOf]; omega
              · obtain rfl : n' = n := by omega
                go_wp2
                go_ret2
                have hg0 := Hg.out
                rw [show grow s (n' - n') id' ns' = (id', ns') from by rw [Nat.sub_self]; rfl] at hg0
                rw [HQ.out, ← hg0]
                exact ⟨rfl, F', hS', Hf.out, HF.out⟩
end Go.Proofs.Ytppmnmheodimoaa
end

section
/- Keys that are structs of two integers. No condition on a program. -/
namespace Go.Proofs.Mp
open Go
set_option linter.unusedVariables false
set_option linter.unusedSimpArgs false
section
variable {P : Program} {T E : TypeId} {q : IntKind} {f1 f2 : Field}
def pairV (q : IntKind) (k : Int × Int) : Value := .agg #[.int q k.1, .int q k.2]
theorem run_program (w : World) : (Go.program : Sem Program).run P w = .ok P w := rfl
theorem run_equalIn_pair (hT : P.underlying T = some (.struct #[f1, f2])) (t1 : f1.type = E) (t2 : f2.type = E) (o1 : f1.offset = 0) (o2 : f2.offset = 1) (n1 : f1.name ≠ "_") (n2 : f2.name ≠ "_") (hE : P.underlying E = some (.int q)) (hst : P.stoodInHeld T = false)
    (d : Nat) (x y : Int × Int) (w : World) : (Op.equalIn (d + 2) T (pairV q x) (pairV q y)).run P w = .ok (decide (x = y)) w := by
  obtain ⟨a, b⟩ := x
  obtain ⟨c, e⟩ := y
  show Sem.run P (Op.equalIn ((d + 1) + 1) _ _ _) w = _
  unfold Op.equalIn pairV
  rw [Sem.run_bind, run_underlying' hT]
  simp only [Result.andThen_ok]
  simp [run_program, hst, n1, n2, t1, t2, o1, o2, Result.andThen_ok, run_part_int hE, run_equal_int hE]
  by_cases h1 : a = c <;> by_cases h2 : b = e <;> simp [h1, h2]
theorem run_checkKey_pair (hT : P.underlying T = some (.struct #[f1, f2])) (t1 : f1.type = E) (t2 : f2.type = E) (o1 : f1.offset = 0) (o2 : f2.offset = 1) (n1 : f1.name ≠ "_") (n2 : f2.name ≠ "_") (hE : P.underlying E = some (.int q))
    (d : Nat) (e : Bool) (x : Int × Int) (w : World) : (Instr.checkKey e (d + 2) T (pairV q x)).run P w = .ok () w := by
  obtain ⟨a, b⟩ := x
  have hc : ∀ (x : Int) w, (Instr.checkKey e (d + 1) E (.int q x)).run P w = .ok () w := by
    intro x w
    unfold Instr.checkKey
    rw [Sem.run_bind, run_underlying' hE]
    simp
  show Sem.run P (Instr.checkKey e ((d + 1) + 1) _ _) w = _
  unfold Instr.checkKey pairV
  rw [Sem.run_bind, run_underlying' hT]
  simp only [Result.andThen_ok]
  simp [n1, n2, t1, t2, o1, o2, Result.andThen_ok, run_part_int hE, hc]
theorem KeysBy.pair (hT : P.underlying T = some (.struct #[f1, f2])) (t1 : f1.type = E) (t2 : f2.type = E) (o1 : f1.offset = 0) (o2 : f2.offset = 1) (n1 : f1.name ≠ "_") (n2 : f2.name ≠ "_") (hE : P.underlying E = some (.int q)) (hst : P.stoodInHeld T = false) : KeysBy P T (pairV q) := by
  refine KeysBy.deep hT (fun k v => rfl) (fun a b w => run_equalIn_pair hT t1 t2 o1 o2 n1 n2 hE hst 9998 a b w) (fun e k w => run_checkKey_pair hT t1 t2 o1 o2 n1 n2 hE 9998 e k w) fun k => ?_
  show Instr.sameBits 10000 (.agg #[_, _]) (.agg #[_, _]) = true
  unfold Instr.sameBits
  simp [sameBits_int]
end
end Go.Proofs.Mp
end

section
/- Things in the heap side by side: each has blocks of its own, new since a world W; a call that turns one leaves the others. No condition on a program. -/
namespace Go.Proofs.Hp
open Go Go.RowKit
set_option linter.unusedVariables false
set_option linter.unusedSimpArgs false
/-- a thing in the heap: what it says of the world and of the list of its blocks -/
structure Res where
  holds : World → List Nat → Prop
  keep : ∀ {w w' : World} {F : List Nat}, holds w F → (∀ x ∈ F, w'.heap[x]? = w.heap[x]?) → holds w' F
  lt : ∀ {w : World} {F : List Nat}, holds w F → ∀ x ∈ F, x < w.heap.size
def Seps (w : World) : List Res → List Nat → Prop
  | [], F => F = []
  | P :: Ps, F => ∃ F1 F2, P.holds w F1 ∧ Seps w Ps F2 ∧ (∀ x ∈ F1, x ∉ F2) ∧ F = F1 ++ F2
def Has (W w : World) (Ps : List Res) : Prop := ∃ F, Seps w Ps F ∧ Fr [] W w ∧ ∀ x ∈ F, W.heap.size ≤ x
theorem Seps.keep {w w' : World} : ∀ {Ps : List Res} {F : List Nat}, Seps w Ps F → (∀ x ∈ F, w'.heap[x]? = w.heap[x]?) → Seps w' Ps F
  | [], _, h, _ => h
  | P :: Ps, F, ⟨F1, F2, h1, h2, h3, h4⟩, hk => ⟨F1, F2, P.keep h1 fun x hx => hk x (by rw [h4]; simp [hx]), Seps.keep h2 fun x hx => hk x (by rw [h4]; simp [hx]), h3, h4⟩
theorem Seps.lt {w : World} : ∀ {Ps : List Res} {F : List Nat}, Seps w Ps F → ∀ x ∈ F, x < w.heap.size
  | [], _, h, x, hx => by rw [show _ = [] from h] at hx; cases hx
  | P :: Ps, F, ⟨F1, F2, h1, h2, h3, h4⟩, x, hx => by
    rw [h4, List.mem_append] at hx
    rcases hx with hx | hx
    · exact P.lt h1 x hx
    · exact Seps.lt h2 x hx
section
variable {W w w' : World} {P P' Q : Res} {Ps : List Res}
theorem Has.fr (h : Has W w Ps) : Fr [] W w := by obtain ⟨_, _, h, _⟩ := h; exact h
theorem Has.nil (h : Fr [] W w) : Has W w [] := ⟨[], rfl, h, by simp⟩
theorem Has.step (h : Has W w Ps) (hf : Fr [] w w') : Has W w' Ps := by
  obtain ⟨F, h1, h2, h3⟩ := h
  exact ⟨F, h1.keep fun x hx => hf.block x (h1.lt x hx) (by simp), h2.trans0 hf, h3⟩
theorem Has.drew (h : Has W w Ps) (hd : Drew w w') : Has W w' Ps := h.step (hd.fr _)
theorem Has.head (h : Has W w (P :: Ps)) : ∃ F, P.holds w F := by obtain ⟨F, ⟨F1, F2, h1, _⟩, _⟩ := h; exact ⟨F1, h1⟩
theorem Has.new {F : List Nat} (h : Has W w Ps) (hf : Fr [] w w') (hP : P.holds w' F) (hF : ∀ x ∈ F, w.heap.size ≤ x) : Has W w' (P :: Ps) := by
  obtain ⟨G, h1, h2, h3⟩ := h
  refine ⟨F ++ G, ⟨F, G, hP, h1.keep fun x hx => hf.block x (h1.lt x hx) (by simp), fun x hx hx' => ?_, rfl⟩, h2.trans0 hf, fun x hx => ?_⟩
  · have := hF x hx; have := h1.lt x hx'; omega
  · rw [List.mem_append] at hx
    rcases hx with hx | hx
    · have := hF x hx; have := h2.size; omega
    · exact h3 x hx
theorem Has.swap (h : Has W w (P :: Q :: Ps)) : Has W w (Q :: P :: Ps) := by
  obtain ⟨F, ⟨F1, F2, h1, ⟨G1, G2, g1, g2, g3, rfl⟩, h3, rfl⟩, hf, hge⟩ := h
  refine ⟨G1 ++ (F1 ++ G2), ⟨G1, F1 ++ G2, g1, ⟨F1, G2, h1, g2, fun x hx hx' => h3 x hx (by simp [hx']), rfl⟩, fun x hx hx' => ?_, rfl⟩, hf, fun x hx => hge x ?_⟩
  · rw [List.mem_append] at hx'
    rcases hx' with h | h
    · exact h3 x h (by simp [hx])
    · exact g3 x hx h
  · simp only [List.mem_append] at hx ⊢
    rcases hx with h | h | h <;> simp [h]
theorem Has.drop (h : Has W w (P :: Ps)) : Has W w Ps := by
  obtain ⟨F, ⟨F1, F2, h1, h2, h3, rfl⟩, hf, hge⟩ := h
  exact ⟨F2, h2, hf, fun x hx => hge x (by simp [hx])⟩
/-- a call turns the first thing -/
theorem Has.upd (h : Has W w (P :: Ps)) {R : Ending → Prop} {Pr : Program} {f : FuncId} {args : Array Value}
    (hc : ∀ F, P.holds w F → Calls Pr f args w fun e w' => R e ∧ ∃ F', P'.holds w' F' ∧ Fr F w w' ∧ ∀ x ∈ F', x ∈ F ∨ w.heap.size ≤ x) : Calls Pr f args w fun e w' => R e ∧ Has W w' (P' :: Ps) := by
  obtain ⟨F, ⟨F1, F2, h1, h2, h3, rfl⟩, hf, hge⟩ := h
  refine (hc F1 h1).mono ?_
  rintro e w' ⟨hR, F', hP, hf', hs⟩
  refine ⟨hR, F' ++ F2, ⟨F', F2, hP, h2.keep fun x hx => hf'.block x (h2.lt x hx) fun hx' => h3 x hx' hx, fun x hx hx' => ?_, rfl⟩, hf.trans hf' fun x hx => .inr (hge x (by simp [hx])), fun x hx => ?_⟩
  · rcases hs x hx with h | h
    · exact h3 x h hx'
    · have := h2.lt x hx'; omega
  · rw [List.mem_append] at hx
    rcases hx with hx | hx
    · rcases hs x hx with h | h
      · exact hge x (by simp [h])
      · have := hf.size; omega
    · exact hge x (by simp [hx])
/-- the first thing is turned by what the law itself does -/
theorem Has.turn (h : Has W w (P :: Ps)) (hc : ∀ F, P.holds w F → ∃ F', P'.holds w' F' ∧ Fr F w w' ∧ ∀ x ∈ F', x ∈ F ∨ w.heap.size ≤ x) : Has W w' (P' :: Ps) := by
  obtain ⟨F, ⟨F1, F2, h1, h2, h3, rfl⟩, hf, hge⟩ := h
  obtain ⟨F', hP, hf', hs⟩ := hc F1 h1
  refine ⟨F' ++ F2, ⟨F', F2, hP, h2.keep fun x hx => hf'.block x (h2.lt x hx) fun hx' => h3 x hx' hx, fun x hx hx' => ?_, rfl⟩, hf.trans hf' fun x hx => .inr (hge x (by simp [hx])), fun x hx => ?_⟩
  · rcases hs x hx with h | h
    · exact h3 x h hx'
    · have := h2.lt x hx'; omega
  · rw [List.mem_append] at hx
    rcases hx with hx | hx
    · rcases hs x hx with h | h
      · exact hge x (by simp [h])
      · have := hf.size; omega
    · exact hge x (by simp [hx])
/-- a call only looks at the first thing -/
theorem Has.look (h : Has W w (P :: Ps)) {R : Ending → World → Prop} {Pr : Program} {f : FuncId} {args : Array Value}
    (hc : ∀ F, P.holds w F → Calls Pr f args w fun e w' => R e w' ∧ Fr [] w w') : Calls Pr f args w fun e w' => R e w' ∧ Has W w' (P :: Ps) := by
  obtain ⟨F, hP⟩ := h.head
  exact (hc F hP).mono fun e w' ⟨h1, h2⟩ => ⟨h1, h.step h2⟩
end
theorem Seps.perm {w : World} {Ps Qs : List Res} (p : Ps.Perm Qs) : ∀ {F : List Nat}, Seps w Ps F → ∃ G, Seps w Qs G ∧ ∀ x, x ∈ G ↔ x ∈ F := by
  induction p with
  | nil => exact fun h => ⟨_, h, fun x => Iff.rfl⟩
  | cons P _ ih =>
    rintro F ⟨F1, F2, h1, h2, h3, rfl⟩
    obtain ⟨G, g1, g2⟩ := ih h2
    exact ⟨F1 ++ G, ⟨F1, G, h1, g1, fun x hx hx' => h3 x hx ((g2 x).1 hx'), rfl⟩, fun x => by simp [g2]⟩
  | swap P Q l =>
    rintro F ⟨F1, F2, h1, ⟨G1, G2, g1, g2, g3, rfl⟩, h3, rfl⟩
    refine ⟨G1 ++ (F1 ++ G2), ⟨G1, F1 ++ G2, g1, ⟨F1, G2, h1, g2, fun x hx hx' => h3 x hx (by simp [hx']), rfl⟩, fun x hx hx' => ?_, rfl⟩, fun x => ?_⟩
    · rw [List.mem_append] at hx'
      rcases hx' with h | h
      · exact h3 x h (by simp [hx])
      · exact g3 x hx h
    · simp only [List.mem_append]
      constructor <;> intro h <;> rcases h with h | h | h <;> simp [h]
  | trans _ _ ih1 ih2 =>
    intro F h
    obtain ⟨G, g1, g2⟩ := ih1 h
    obtain ⟨G', g1', g2'⟩ := ih2 g1
    exact ⟨G', g1', fun x => (g2' x).trans (g2 x)⟩
theorem Has.perm {W w : World} {Ps Qs : List Res} (h : Has W w Ps) (p : Ps.Perm Qs) : Has W w Qs := by
  obtain ⟨F, h1, h2, h3⟩ := h
  obtain ⟨G, g1, g2⟩ := h1.perm p
  exact ⟨G, g1, h2, fun x hx => h3 x ((g2 x).1 hx)⟩
theorem Has.third {W w : World} {A B C : Res} {Ps : List Res} (h : Has W w (A :: B :: C :: Ps)) : Has W w (C :: A :: B :: Ps) := h.perm (((List.Perm.swap C B Ps).cons A).trans (List.Perm.swap C A (B :: Ps)))
theorem Has.fourth {W w : World} {A B C D : Res} {Ps : List Res} (h : Has W w (A :: B :: C :: D :: Ps)) : Has W w (D :: A :: B :: C :: Ps) :=
  h.perm (((((List.Perm.swap D C Ps).cons B).trans (List.Perm.swap D B (C :: Ps))).cons A).trans (List.Perm.swap D A (B :: C :: Ps)))
/-- one block, known whole -/
def blk (b : Nat) (o : Obj) : Res where
  holds w F := w.heap[b]? = some o ∧ F = [b]
  keep := fun ⟨h1, h2⟩ hk => ⟨by rw [hk b (by simp [h2])]; exact h1, h2⟩
  lt := fun ⟨h1, h2⟩ x hx => by rw [h2] at hx; simp at hx; subst hx; exact lt_of_block h1
theorem Has.blk {W w : World} {Ps : List Res} {b : Nat} {o : Obj} (h : Has W w (Hp.blk b o :: Ps)) : w.heap[b]? = some o := by obtain ⟨F, h1, _⟩ := h.head; exact h1
/-- a row that was made -/
def row (T size : Nat) (v : Value) (n : Nat) (xs : List Value) : Res where
  holds w F := w.ownsRow 0 T size v n xs ∧ F = v.ownBlock.toList
  keep := fun ⟨h1, h2⟩ hk => ⟨owns_of_block h1 fun g hg => hk g (by simp [h2, hg]), h2⟩
  lt := fun ⟨h1, h2⟩ x hx => by rw [h2] at hx; exact owns_lt h1 (by simpa using hx)
theorem Has.row {W w : World} {Ps : List Res} {T size n : Nat} {v : Value} {xs : List Value} (h : Has W w (Hp.row T size v n xs :: Ps)) : w.ownsRow 0 T size v n xs := by obtain ⟨F, h1, _⟩ := h.head; exact h1
theorem Has.newRow {W w w' : World} {Ps : List Res} {T size n : Nat} {v : Value} {xs : List Value} (h : Has W w Ps) (hf : Fr [] w w') (ho : w'.ownsRow w.heap.size T size v n xs) : Has W w' (Hp.row T size v n xs :: Ps) :=
  h.new hf (F := v.ownBlock.toList) ⟨owns_base ho (Nat.zero_le _), rfl⟩ fun x hx => owns_ge ho (by simpa using hx)
theorem Has.newBlk {W w : World} {Ps : List Res} (h : Has W w Ps) (o : Obj) : Has W (w.alloc o) (Hp.blk w.heap.size o :: Ps) :=
  h.new ((Fr.refl [] w).alloc o) (F := [w.heap.size]) ⟨by rw [hp_alloc, if_pos rfl], rfl⟩ (by simp)
end Go.Proofs.Hp
end
