/- Empty, Load, Right of package quad. -/
import Derived.Test.YtgcompnpjpmanaaQt
namespace Go.Proofs.Ytgcompnpjpmanaa
open Go Go.RowKit Go.Proofs.Rg Go.Proofs.Mp Go.Proofs.Hp Go.Proofs.Qs
def four (id : Int) : K4 := ⟨id, id, id, id⟩
/-- the empty nodes that are there -/
def climb (s : Int) (ns : List K4) : Nat → Int → Nat → Int × Nat
  | 0, id, n => (id, n)
  | m + 1, id, n => match ns.idxOf? (four id) with
    | some i => climb s ns m (s + i) (n + 1)
    | none => (id, n)
/-- empty nodes laid one on the other -/
def grow (s : Int) : Nat → Int → List K4 → Int × List K4
  | 0, id, ns => (id, ns)
  | m + 1, id, ns => grow s m (join s ns (four id)).1.1 (join s ns (four id)).2
def emptyQ (s : Int) (ns : List K4) (level : Int) : (Int × Int) × List K4 :=
  if level < 0 ∨ 256 < level then ((0, 18), ns)
  else if 100000 < ns.length + (level.toNat - (climb s ns level.toNat 0 0).2) then ((0, 6), ns)
  else (((grow s (level.toNat - (climb s ns level.toNat 0 0).2) (climb s ns level.toNat 0 0).1 ns).1, 0), (grow s (level.toNat - (climb s ns level.toNat 0 0).2) (climb s ns level.toNat 0 0).1 ns).2)
theorem climb_le {s : Int} {ns : List K4} : ∀ (m : Nat) (id : Int) (n : Nat), (climb s ns m id n).2 ≤ n + m
  | 0, id, n => by simp [climb]
  | m + 1, id, n => by
    unfold climb
    split
    · have := climb_le (s := s) (ns := ns) m (s + ‹Nat›) (n + 1); omega
    · simp
/-- what a call of a store that returns two numbers leaves -/
def TwoPost (w : World) (b : Nat) (s : Int) (r : (Int × Int) × List K4) (F : List Nat) (e : Ending) (w' : World) : Prop :=
  e = .returned (.tuple #[.int .i64 r.1.1, .int .i64 r.1.2]) ∧ ∃ F', StoreAt w' b s r.2 F' ∧ Fr F w w' ∧ (∀ x ∈ F', x ∈ F ∨ w.heap.size ≤ x)
theorem TwoPost.same {w w' : World} {b : Nat} {s : Int} {ns : List K4} {F : List Nat} {r e : Int} (hS : StoreAt w b s ns F) (hf : Fr [] w w') : TwoPost w b s ((r, e), ns) F (.returned (.tuple #[.int .i64 r, .int .i64 e])) w' :=
  ⟨rfl, F, hS.fr hf (by simp), hf.mono (by simp), fun x hx => .inl hx⟩
theorem kv_four (id : Int) : (Value.agg #[.int .i64 id, .int .i64 id, .int .i64 id, .int .i64 id]) = kv (four id) := rfl
set_option maxHeartbeats 4000000 in
theorem Empty_calls {w : World} {b : Nat} {s : Int} {ns : List K4} {F : List Nat} (hS : StoreAt w b s ns F) (level : Int) :
    Calls Try.prog 21 #[.pointer (some ⟨b, 0, none⟩), .int .i64 level] w (TwoPost w b s (emptyQ s ns level) F) := by
  by_cases hneg : level < 0
  · have : emptyQ s ns level = ((0, 18), ns) := by unfold emptyQ; rw [if_pos (.inl hneg)]
    rw [this]
    have hd : decide (level < 0) = true := by simpa using hneg
    go_enter Try.func21, Try.ntmps21
    go_wp2
    go_ret2
    exact TwoPost.same hS (Fr.refl _ _)
  · by_cases hbig : 256 < level
    · have : emptyQ s ns level = ((0, 18), ns) := by unfold emptyQ; rw [if_pos (.inr hbig)]
      rw [this]
      have hd : decide (level < 0) = false := by simpa using hneg
      go_enter Try.func21, Try.ntmps21
      go_wp2
      go_ret2
      exact TwoPost.same hS (Fr.refl _ _)
    · obtain ⟨L, rfl⟩ : ∃ L : Nat, level = L := ⟨level.toNat, by omega⟩
      have hL : L ≤ 256 := by omega
      have hSk := hS
      obtain ⟨hgood, nv, lv, mb, hI, rfl⟩ := hS
      obtain ⟨na, nc, rfl, hx1⟩ := owns_form hI.nodes
      have hlen : ns.length ≤ 100000 := hgood.2.2.1
      have hs1 : 2 ≤ s := hgood.1
      have hs2 : s ≤ 8 := hgood.2.1
      have b0 := heap_eq_cell hI.blk 0
      have b1 := heap_eq_cell hI.blk 1
      have b3 := heap_eq_cell hI.blk 3
      have hE : emptyQ s ns L = if 100000 < ns.length + (L - (climb s ns L 0 0).2) then ((0, 6), ns) else (((grow s (L - (climb s ns L 0 0).2) (climb s ns L 0 0).1 ns).1, 0), (grow s (L - (climb s ns L 0 0).2) (climb s ns L 0 0).1 ns).2) := by
        unfold emptyQ; rw [if_neg (by omega)]; rfl
      have HE := Lib.hid hE
      have HI := Lib.hid hI
      have Hlen := Lib.hid hlen
      clear hx1 hE hI hlen
      have hlen2 : ns.length ≤ 1048576 := by have := Hlen.out; omega
      go_enter Try.func21, Try.ntmps21
      go_wp2
      go_loop [6, 7] (fun x y => ∃ (id : Int) (n : Nat), x = .int .i64 id ∧ y = .int .i64 n ∧ n ≤ L ∧ climb s ns (L - n) id n = climb s ns L 0 0) (fun _ y => L - (intOf y).toNat)
      case atStart => exact ⟨0, 0, rfl, rfl, by omega, by simp⟩
      case round =>
        obtain ⟨id, n, rfl, rfl, hn, hc⟩ := hrel
        have Hc := Lib.hid hc
        clear hc
        by_cases hlt : n < L
        · cases hfind : ns.idxOf? (four id) with
          | some i =>
            go_wp2_with (at_lookup; refine wpList_lookup_hit (f := kv) (g := Value.int .i64) (k := four id) (z := .int .i64 0) rfl rfl rfl rfl (HI.out.known) Try.underlying61 keys4 (zero_int _) (find_hit hfind) ?_)
            go_round
            case rel => exact ⟨s + i, n + 1, rfl, by go_num, by omega, by rw [← Hc.out, show L - n = (L - (n + 1)) + 1 by omega, climb, hfind]⟩
            case measure => simp [intOf]; omega
          | none =>
            have hp : climb s ns L 0 0 = (id, n) := by rw [← Hc.out, show L - n = (L - (n + 1)) + 1 by omega, climb, hfind]
            have HP := Lib.hid hp
            clear hp
            by_cases hfull : 100000 < ns.length + (L - n)
            · have hd2 : (100000 : Int) - (↑L - ↑n) < ns.length := by omega
              have Hfull := Lib.hid hfull
              clear hfull
              go_wp2_with (at_lookup; refine wpList_lookup_miss (f := kv) (g := Value.int .i64) (k := four id) (z := .int .i64 0) rfl rfl rfl rfl (HI.out.known) Try.underlying61 keys4 (zero_int _) (find_miss hfind) ?_)
              go_ret2
              have hQ := HE.out
              rw [HP.out] at hQ
              rw [if_pos Hfull.out] at hQ
              rw [hQ]
              exact TwoPost.same hSk (by (repeat (first | exact Fr.refl _ _ | assumption | apply Fr.drewN | apply Fr.drew | apply Fr.alloc | refine Fr.setCell ?_ (Or.inr (by simp; try omega)) _)))
            · have hd2 : (ns.length : Int) ≤ 100000 - (↑L - ↑n) := by omega
              have Hfull := Lib.hid hfull
              clear hfull
              have hQ := HE.out
              rw [HP.out] at hQ
              rw [if_neg Hfull.out] at hQ
              have HQ := Lib.hid hQ
              clear hQ
              go_wp2_with (at_lookup; refine wpList_lookup_miss (f := kv) (g := Value.int .i64) (k := four id) (z := .int .i64 0) rfl rfl rfl rfl (HI.out.known) Try.underlying61 keys4 (zero_int _) (find_miss hfind) ?_)
              go_loopw [6, 7] (fun x y wr => ∃ (id' : Int) (n' : Nat) (ns' : List K4) (F' : List Nat), x = .int .i64 id' ∧ y = .int .i64 n' ∧ n' ≤ L ∧ grow s (L - n') id' ns' = grow s (L - n) id ns ∧ StoreAt wr b s ns' F' ∧
                Fr (foot b (.slice na ns.length nc) lv mb) w wr ∧ (∀ x ∈ F', x ∈ foot b (.slice na ns.length nc) lv mb ∨ w.heap.size ≤ x)) (fun _ y _ => L - (intOf y).toNat)
              case atStart => exact ⟨id, n, ns, _, rfl, rfl, hn, rfl, hSk, Fr.refl _ _, fun x hx => .inl hx⟩
              case round =>
                obtain ⟨id', n', ns', F', rfl, rfl, hn', hg, hS', hf', hF'⟩ := hrel
                have Hg := Lib.hid hg
                have Hf := Lib.hid hf'
                have HF := Lib.hid hF'
                clear hg hf' hF'
                by_cases hlt' : n' < L
                · have hJ : Calls Try.prog 19 #[.pointer (some ⟨b, 0, none⟩), .int .i64 id', .int .i64 id', .int .i64 id', .int .i64 id'] wr (JoinPost wr b s ns' F' (four id')) := Join_calls hS' (four id')
                  have hgs : grow s (L - n') id' ns' = grow s (L - (n' + 1)) (join s ns' (four id')).1.1 (join s ns' (four id')).2 := by
                    rw [show L - n' = (L - (n' + 1)) + 1 by omega]; rfl
                  have Hgs := Lib.hid hgs
                  clear hgs
                  go_wp2_with fail
                  refine hJ.mono ?_
                  rintro e w1 ⟨rfl, F2, hS2, hf2, hF2⟩
                  clear hJ
                  have Hf2 := Lib.hid hf2
                  have HF2 := Lib.hid hF2
                  clear hf2 hF2
                  go_wp2
                  go_roundw
                  case rel =>
                    refine ⟨_, n' + 1, (join s ns' (four id')).2, F2, rfl, by go_num, by omega, Hgs.out.symm.trans Hg.out, hS2, Hf.out.trans Hf2.out HF.out, fun x hx => ?_⟩
                    rcases HF2.out x hx with h | h
                    · exact HF.out x h
                    · right; have := Hf.out.size; omega
                  case measure => simp [intOf]; omega
                · obtain rfl : n' = L := by omega
                  go_wp2
                  go_ret2
                  have hg0 := Hg.out
                  rw [show grow s (n' - n') id' ns' = (id', ns') from by rw [Nat.sub_self]; rfl] at hg0
                  rw [HQ.out, ← hg0]
                  exact ⟨rfl, F', hS', Hf.out, HF.out⟩
        · obtain rfl : n = L := by omega
          have hp : climb s ns n 0 0 = (id, n) := by rw [← Hc.out, Nat.sub_self, climb]
          have HP := Lib.hid hp
          clear hp
          by_cases hfull : 100000 < ns.length + (n - n)
          · have hd2 : (100000 : Int) - (↑n - ↑n) < ns.length := by omega
            have Hfull := Lib.hid hfull
            clear hfull
            go_wp2
            go_ret2
            have hQ := HE.out
            rw [HP.out] at hQ
            rw [if_pos Hfull.out] at hQ
            rw [hQ]
            exact TwoPost.same hSk (by (repeat (first | exact Fr.refl _ _ | assumption | apply Fr.drewN | apply Fr.drew | apply Fr.alloc | refine Fr.setCell ?_ (Or.inr (by simp; try omega)) _)))
          · have hd2 : (ns.length : Int) ≤ 100000 - (↑n - ↑n) := by omega
            have Hfull := Lib.hid hfull
            clear hfull
            have hQ := HE.out
            rw [HP.out] at hQ
            rw [if_neg Hfull.out] at hQ
            have HQ := Lib.hid hQ
            clear hQ
            go_wp2
            go_loopw [6, 7] (fun x y wr => ∃ (id' : Int) (n' : Nat) (ns' : List K4) (F' : List Nat), x = .int .i64 id' ∧ y = .int .i64 n' ∧ n' ≤ n ∧ grow s (n - n') id' ns' = grow s (n - n) id ns ∧ StoreAt wr b s ns' F' ∧
              Fr (foot b (.slice na ns.length nc) lv mb) w wr ∧ (∀ x ∈ F', x ∈ foot b (.slice na ns.length nc) lv mb ∨ w.heap.size ≤ x)) (fun _ y _ => n - (intOf y).toNat)
            case atStart => exact ⟨id, n, ns, _, rfl, rfl, hn, rfl, hSk, Fr.refl _ _, fun x hx => .inl hx⟩
            case round =>
              obtain ⟨id', n', ns', F', rfl, rfl, hn', hg, hS', hf', hF'⟩ := hrel
              have Hg := Lib.hid hg
              have Hf := Lib.hid hf'
              have HF := Lib.hid hF'
              clear hg hf' hF'
              by_cases hlt' : n' < n
              · have hJ : Calls Try.prog 19 #[.pointer (some ⟨b, 0, none⟩), .int .i64 id', .int .i64 id', .int .i64 id', .int .i64 id'] wr (JoinPost wr b s ns' F' (four id')) := Join_calls hS' (four id')
                have hgs : grow s (n - n') id' ns' = grow s (n - (n' + 1)) (join s ns' (four id')).1.1 (join s ns' (four id')).2 := by
                  rw [show n - n' = (n - (n' + 1)) + 1 by omega]; rfl
                have Hgs := Lib.hid hgs
                clear hgs
                go_wp2_with fail
                refine hJ.mono ?_
                rintro e w1 ⟨rfl, F2, hS2, hf2, hF2⟩
                clear hJ
                have Hf2 := Lib.hid hf2
                have HF2 := Lib.hid hF2
                clear hf2 hF2
                go_wp2
                go_roundw
                case rel =>
                  refine ⟨_, n' + 1, (join s ns' (four id')).2, F2, rfl, by go_num, by omega, Hgs.out.symm.trans Hg.out, hS2, Hf.out.trans Hf2.out HF.out, fun x hx => ?_⟩
                  rcases HF2.out x hx with h | h
                  · exact HF.out x h
                  · right; have := Hf.out.size; omega
                case measure => simp [intOf]; omega
              · obtain rfl : n' = n := by omega
                go_wp2
                go_ret2
                have hg0 := Hg.out
                rw [show grow s (n' - n') id' ns' = (id', ns') from by rw [Nat.sub_self]; rfl] at hg0
                rw [HQ.out, ← hg0]
                exact ⟨rfl, F', hS', Hf.out, HF.out⟩
end Go.Proofs.Ytgcompnpjpmanaa
