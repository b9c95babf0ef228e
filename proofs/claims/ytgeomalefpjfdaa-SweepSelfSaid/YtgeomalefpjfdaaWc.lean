/- Copy of package sweep. -/
import Derived.Test.YtgeomalefpjfdaaWk
namespace Go.Proofs.Ytgeomalefpjfdaa
open Go Go.RowKit Go.Proofs.Rg Go.Proofs.Mp Go.Proofs.Hp Go.Proofs.Qs
set_option linter.unusedVariables false
theorem wpList_update_fr {P : Program} {κ : Type} [DecidableEq κ] {f : κ → Value} {ν : Type} {g : ν → Value} {ops : Array Oper} {rest : List Oper} {o : Oper} {a : Act} {w : World} {Q : Exit → Act → World → Prop}
    {T K E : TypeId} {m x u : Operand} {b : Nat} {l : List (κ × ν)} {k : κ} {v : ν} (hg : o.guard = none) (ho : o.op = .mapUpdate T m x u) (hm : a.eval m = .map (some b)) (hx : a.eval x = f k) (hu : a.eval u = g v) (h : MapIs w b f g l)
    (hT : P.underlying T = some (.map K E)) (hK : KeysBy P K f) (hnext : ∀ w', MapIs w' b f g (put l k v) → Fr [b] w w' → w'.heap.size = w.heap.size → wpList P ops Q rest (a.put o.dst undef) w') : wpList P ops Q (o :: rest) a w :=
  wpList_update_is hg ho hm hx hu h hT hK fun q hq => hnext _ hq ((Fr.refl _ _).setBlock (.inl (by simp)) _) (by simp)
/-- what Copy leaves -/
def CopyPost (w : World) (b : Nat) (s t : Int) (ns ms : List K4) (id : Int) (F : List Nat) (e : Ending) (w' : World) : Prop :=
  (marks s ns [id] = none → e = .returned (.tuple #[.int .i64 0, .int .i64 13]) ∧ Fr [] w w') ∧
  ∀ m, marks s ns [id] = some m → (s ≠ t → e = .returned (.tuple #[.int .i64 0, .int .i64 10]) ∧ Fr [] w w') ∧
    (s = t → e = .returned (.tuple #[.int .i64 (geti (cp s ns ms m ns.length).1 id), .int .i64 0]) ∧ ∃ F', StoreAt w' b s (cp s ns ms m ns.length).2 F' ∧ Fr F w w' ∧ ∀ x ∈ F', x ∈ F ∨ w.heap.size ≤ x)
set_option maxRecDepth 100000 in
theorem Copy_nil1 (id : Int) (v : Value) (w : World) : Calls Try.prog 20 #[.pointer none, .int .i64 id, v] w fun e w' => e = .returned (.tuple #[.int .i64 0, .int .i64 1]) ∧ Fr [] w w' := by
  go_enter Try.func20, Try.ntmps20
  go_wp2
  go_ret2
  exact ⟨rfl, Fr.refl _ _⟩
set_option maxRecDepth 100000 in
theorem Copy_nil2 (id : Int) (b : Nat) (w : World) : Calls Try.prog 20 #[.pointer (some ⟨b, 0, none⟩), .int .i64 id, .pointer none] w fun e w' => e = .returned (.tuple #[.int .i64 0, .int .i64 1]) ∧ Fr [] w w' := by
  go_enter Try.func20, Try.ntmps20
  go_wp2
  go_ret2
  exact ⟨rfl, Fr.refl _ _⟩
set_option maxHeartbeats 32000000 in
set_option maxRecDepth 100000 in
theorem Copy_calls {w : World} {a b : Nat} {s t : Int} {ns ms : List K4} {G F : List Nat} (hA : StoreAt w a s ns G) (hB : StoreAt w b t ms F) (hlen : ms.length + ns.length ≤ 100000) (id : Int) :
    Calls Try.prog 20 #[.pointer (some ⟨a, 0, none⟩), .int .i64 id, .pointer (some ⟨b, 0, none⟩)] w (CopyPost w b s t ns ms id F) := by
  have hg := hA.1
  have hg' := hB.1
  have hs1 := hg.1
  have hs2 := hg.2.1
  have hln := hg.2.2.1
  have ht1 := hg'.1
  have ht2 := hg'.2.1
  have hlm := hg'.2.2.1
  obtain ⟨S, rfl⟩ : ∃ S : Nat, s = S := ⟨s.toNat, by omega⟩
  obtain ⟨T, rfl⟩ : ∃ T : Nat, t = T := ⟨t.toNat, by omega⟩
  have Hg := Lib.hid hg
  have Hg' := Lib.hid hg'
  have HA := Lib.hid hA
  have HB := Lib.hid hB
  have HLEN := Lib.hid hlen
  clear hA hB hg hg' hlen
  go_enter Try.func20, Try.ntmps20
  go_wp2_with fail
  refine (Data_calls HA.out).mono ?_
  rintro e w1 ⟨v, rfl, ho, hf⟩
  obtain ⟨va, vc, rfl, hva, _⟩ := owns_form ho
  have Ho := Lib.hid ho
  have Hf := Lib.hid hf
  have HB1 := Lib.hid (HB.out.fr hf (by simp))
  clear ho hf hva
  go_wp2_with fail
  refine (Data_calls HB1.out).mono ?_
  rintro e w2 ⟨v, rfl, ho, hf⟩
  obtain ⟨ua, uc, rfl, hua, _⟩ := owns_form ho
  have hfw : Fr [] w w2 := Hf.out.trans0 hf
  have hra := (Reads.of_owns Ho.out).fr hf
  have hrb := Reads.of_owns ho
  have Hfw := Lib.hid hfw
  have Hra := Lib.hid hra
  have Hrb := Lib.hid hrb
  clear ho hf hua hfw hra hrb
  go_wp2_with fail
  have hq : ∀ w3 c, Fr [] w2 w3 → w3.heap[w2.heap.size + 2]? = some (.cells #[.int .i64 id] 3 (0, 0)) → Calls Try.prog 28 #[.agg #[.int .i64 S, .slice va ns.length vc], .slice (some ⟨w2.heap.size + 2, 0, none⟩) 1 c] w3 (MarkPost w3 S ns [id]) := fun w3 c hf3 h3 =>
    marked_calls Hg.out (Hra.out.fr hf3) (reads_blk (cs := [.int .i64 id]) h3 rfl) (by simp)
  refine (hq _ _ (by (repeat (first | exact Fr.refl _ _ | assumption | apply Fr.drewN | apply Fr.drew | apply Fr.alloc | refine Fr.setCell ?_ (Or.inr (by simp; try omega)) _))) (by (repeat (first | rw [if_pos (by omega)] | rw [if_neg (by omega)] | rw [hp_drew] | rw [hp_drewN] | rw [hp_alloc_size] | rw [hp_setCell_size] | rw [hp_alloc] | rw [hp_setCell] | rw [Option.map_some] | rw [upd_cells] | rw [List.set_cons_zero] | rw [List.set_cons_succ] | rfl)))).mono ?_
  clear hq
  rintro e w4 ⟨h1, h2⟩
  have H1 := Lib.hid h1
  have H2 := Lib.hid h2
  clear h1 h2
  cases hm : marks S ns [id] with
  | none =>
    obtain ⟨rfl, h2⟩ := H1.out hm
    have Hf2 := Lib.hid h2
    have Hm := Lib.hid hm
    clear h2 hm
    go_wp2
    go_ret2
    refine ⟨fun _ => ⟨rfl, ?_⟩, fun m h => (by rw [Hm.out] at h; cases h)⟩
    have h0 := Hfw.out
    refine Fr.trans0 ?_ Hf2.out
    (repeat (first | exact Fr.refl _ _ | assumption | apply Fr.drewN | apply Fr.drew | apply Fr.alloc | refine Fr.setCell ?_ (Or.inr (by simp; try omega)) _))
  | some m =>
    obtain ⟨mv, rfl, ho2, h2⟩ := H2.out m hm
    have hmk := marks_marked Hg.out hm
    have hml := hmk.len
    have Hmk := Lib.hid hmk
    have Hm := Lib.hid hm
    obtain ⟨N, hN⟩ : ∃ N, N = m.length := ⟨_, rfl⟩
    have HNi := Lib.hid (show (N : Int) = S + ns.length by omega)
    have hNb : N ≤ 200000 := by omega
    have hNp : 0 < N := by omega
    have hSN : S ≤ N := by omega
    rw [← hN] at ho2
    have HNm := Lib.hid hN
    have hb7 : w4.heap[w2.heap.size]? = some (.cells #[.int .i64 S, .slice va ns.length vc] 24 (0, 0)) := (h2.block _ (by simp; omega) (by simp)).trans (by (repeat (first | rw [if_pos (by omega)] | rw [if_neg (by omega)] | rw [hp_drew] | rw [hp_drewN] | rw [hp_alloc_size] | rw [hp_setCell_size] | rw [hp_alloc] | rw [hp_setCell] | rw [Option.map_some] | rw [upd_cells] | rw [List.set_cons_zero] | rw [List.set_cons_succ] | rfl)))
    have hb8 : w4.heap[w2.heap.size + 1]? = some (.cells #[.int .i64 T, .slice ua ms.length uc] 24 (0, 0)) := (h2.block _ (by simp) (by simp)).trans (by (repeat (first | rw [if_pos (by omega)] | rw [if_neg (by omega)] | rw [hp_drew] | rw [hp_drewN] | rw [hp_alloc_size] | rw [hp_setCell_size] | rw [hp_alloc] | rw [hp_setCell] | rw [Option.map_some] | rw [upd_cells] | rw [List.set_cons_zero] | rw [List.set_cons_succ] | rfl)))
    have hf24 : Fr [] w2 w4 := Fr.trans0 (by (repeat (first | exact Fr.refl _ _ | assumption | apply Fr.drewN | apply Fr.drew | apply Fr.alloc | refine Fr.setCell ?_ (Or.inr (by simp; try omega)) _))) h2
    have hb7l := lt_of_block hb7
    have hb8l := lt_of_block hb8
    have hmr := Reads.of_owns ho2
    obtain ⟨ma, mc, rfl, hma, _⟩ := owns_form ho2
    obtain ⟨g2, rfl⟩ := hma hNp
    have hg2 := owns_lt ho2 rfl
    have hmc : ∀ i : Nat, i < N → w4.cell? ⟨g2, i, none⟩ = some (.bool (at' m i)) := fun i hi => owns_cell ho2 rfl (by
      rw [bos, List.getElem?_map, List.getElem?_eq_getElem (by omega)]
      unfold at'
      rw [List.getD_eq_getElem?_getD, show ((i : Int)).toNat = i from rfl, List.getElem?_eq_getElem (by omega)]; rfl)
    have Hb7 := Lib.hid hb7
    have Hb8 := Lib.hid hb8
    have Hfw4 := Lib.hid (Hfw.out.trans0 hf24)
    have Hra4 := Lib.hid (Hra.out.fr hf24)
    have Hrb4 := Lib.hid (Hrb.out.fr hf24)
    have HB4 := Lib.hid (HB.out.fr (Hfw.out.trans0 hf24) (by simp))
    have Hmc := Lib.hid hmc
    have k0 := heap_eq_cell hb7 0
    have k1 := heap_eq_cell hb7 1
    have l0 := heap_eq_cell hb8 0
    have l1 := heap_eq_cell hb8 1
    clear hm h2 hmk hml hN ho2 hb7 hb8 hf24 hmr hma hmc H1 H2
    by_cases hST : S = T
    · subst hST
      have hmm := @run_makeMap Try.prog
      go_wp2_with fail
      clear hmm k0 k1 l0 l1
      go_loopw [58] (fun x wl => ∃ (k : Nat), x = .int .i64 k ∧ k ≤ ms.length ∧ MapIs wl w4.heap.size kv (Value.int .i64) (pairs S (ms.take k)) ∧ Fr [] w4 wl) (fun x _ => ms.length - (intOf x).toNat)
      case atStart =>
        refine ⟨0, rfl, by omega, ?_, by (repeat (first | exact Fr.refl _ _ | assumption | apply Fr.drewN | apply Fr.drew | apply Fr.alloc | refine Fr.setCell ?_ (Or.inr (by simp; try omega)) _))⟩
        refine (MapIs.made w4).of_block ?_
        (repeat (first | rw [if_pos (by omega)] | rw [if_neg (by omega)] | rw [hp_drew] | rw [hp_drewN] | rw [hp_alloc_size] | rw [hp_setCell_size] | rw [hp_alloc] | rw [hp_setCell] | rw [Option.map_some] | rw [upd_cells] | rw [List.set_cons_zero] | rw [List.set_cons_succ] | rfl))
        simp
      case round =>
        obtain ⟨k, rfl, hk, hmap, hf⟩ := hrel
        have hb5 := (hf.block _ hb8l (by simp)).trans Hb8.out
        have l0 := heap_eq_cell hb5 0
        have l1 := heap_eq_cell hb5 1
        have hb5l := lt_of_block hb5
        have hml := hmap.lt
        by_cases hlt : k < ms.length
        · obtain ⟨x, hx⟩ : ∃ x, ms[k]? = some x := ⟨_, List.getElem?_eq_getElem hlt⟩
          obtain ⟨_, a', c', hsl, hcell⟩ := Hrb4.out
          simp only [Value.slice.injEq] at hsl
          obtain ⟨rfl, _, rfl⟩ := hsl
          obtain ⟨g, off, rfl, hg, hc⟩ := hcell (by omega)
          obtain ⟨f0, f1, f2, f3⟩ := flat_get hx
          rw [Nat.mul_comm] at f0 f1 f2 f3
          have hgw : ∀ j, wr.cell? ⟨g, off + j, none⟩ = w4.cell? ⟨g, off + j, none⟩ := fun j => hf.cell (p := ⟨g, off + j, none⟩) hg (by simp)
          have e0 := (hgw _).trans (hc _ _ f0)
          have e1 := (hgw _).trans (hc _ _ f1)
          have e2 := (hgw _).trans (hc _ _ f2)
          have e3 := (hgw _).trans (hc _ _ f3)
          simp only [← Nat.add_assoc] at e1 e2 e3
          have hgr : g < wr.heap.size := by have := hf.size; omega
          have Hmap := Lib.hid hmap
          have Hf5 := Lib.hid hf
          have Hx := Lib.hid hx
          clear hmap hf hb5 hcell hc f0 f1 f2 f3 hgw hx
          go_wp2_with (at_mapUpdate; refine wpList_update_is (f := kv) (g := Value.int .i64) (k := x) (v := (S : Int) + k) rfl rfl rfl rfl rfl (Hmap.out.of_block (heap_alloc_else _ _ _ hml)) Try.underlying73 keysQ ?_)
          intro q hq
          have Hq := Lib.hid hq
          clear hq
          go_wp2
          go_roundw
          case rel =>
            have hx := Hx.out
            have hnot : (ms.take k).idxOf? x = none := by
              rw [List.idxOf?_eq_none_iff]
              intro hin
              obtain ⟨j, hj⟩ := List.getElem?_of_mem hin
              rw [List.getElem?_take] at hj
              by_cases hjk : j < k
              · rw [if_pos hjk] at hj
                have := (List.getElem?_inj (by omega) Hg'.out.2.2.2.1).1 (hj.trans hx.symm)
                omega
              · rw [if_neg hjk] at hj; cases hj
            have hp := put_miss (s := S) hnot
            rw [List.length_take, Nat.min_eq_left (by omega)] at hp
            refine ⟨k + 1, by go_num, by omega, ?_, ?_⟩
            · rw [List.take_add_one, hx]
              have := Hq.out
              rw [hp] at this
              exact this
            · exact (Hf5.out.alloc _).setBlock (.inr (by omega)) _
          case measure => simp [intOf]; omega
        · obtain rfl : k = ms.length := by omega
          rw [List.take_length] at hmap
          have hb6 := (hf.block _ hb7l (by simp)).trans Hb7.out
          have k0 := heap_eq_cell hb6 0
          have hb6l := lt_of_block hb6
          have Hmap := Lib.hid hmap
          have Hf5 := Lib.hid hf
          obtain ⟨w5, rfl⟩ : ∃ w5 : World, w5 = wr := ⟨_, rfl⟩
          clear hmap hf hb5 hb6
          go_wp2_with (refine wpList_make1 rfl (t := 25) (e := 3) (n := N) (z := .int .i64 0) (bytes := 8) rfl rfl rfl Try.underlying25 info_i64 rfl ?e1 ?e2 ?_)
          case e1 => omega
          case e2 => unfold maxLen; omega
          clear k0 l0 l1
          intro w6 ho6 hf6 hsz6
          have hb6 := (hf6.block _ hb6l (by simp)).trans ((Hf5.out.block _ hb7l (by simp)).trans Hb7.out)
          have k0 := heap_eq_cell hb6 0
          have hb6l2 := lt_of_block hb6
          have Ho6 := Lib.hid ho6
          have Hf6 := Lib.hid hf6
          clear ho6 hf6 hb6
          go_wp2_with fail
          clear k0 hb6l2
          go_loopw [75] (fun x wl => ∃ (k : Nat), x = .int .i64 k ∧ k ≤ S ∧ wl.ownsRow w5.heap.size 3 1 (.slice (some ⟨w5.heap.size, 0, none⟩) N N) N (i64s (names0 k N)) ∧ Fr [] w5 wl) (fun x _ => S - (intOf x).toNat)
          case atStart => exact ⟨0, rfl, by omega, by have := Ho6.out; rwa [show i64s (names0 ((0 : Nat) : Int) N) = List.replicate N (.int .i64 0) by rw [show ((0 : Nat) : Int) = 0 from rfl, names0_zero]; simp [i64s]], Hf6.out⟩
          case round =>
            obtain ⟨k, rfl, hk, ho, hf⟩ := hrel
            have hol := owns_lt ho rfl
            by_cases hlt : k < S
            · have hkN : k < N := by omega
              have hc := owns_cell ho rfl (i64s_get (t := names0 k N) (n := k) (by rw [names0_length]; omega))
              have hz := owns_frozen ho rfl k
              have Ho4 := Lib.hid ho
              have Hf4 := Lib.hid hf
              clear ho hf
              go_wp2
              go_roundw
              case rel =>
                refine ⟨k + 1, by go_num, by omega, ?_, Hf4.out.setCell (.inr (by simp)) _⟩
                rw [show ((k + 1 : Nat) : Int) = (k : Int) + 1 by omega, names0_succ, i64s_seti]
                exact owns_set Ho4.out rfl (by rw [Ho4.out.1]; simp; omega) _
              case measure => simp [intOf]; omega
            · obtain rfl : S = k := by omega
              have hmap := Hmap.out.of_block (hf.block _ hml (by simp))
              have hfr := Hf5.out.trans0 hf
              have hb7 := (hfr.block _ hb7l (by simp)).trans Hb7.out
              have k0 := heap_eq_cell hb7 0
              have k1 := heap_eq_cell hb7 1
              have hb7l2 := lt_of_block hb7
              have Ho7 := Lib.hid ho
              have Hf7 := Lib.hid hfr
              have Hmap7 := Lib.hid hmap
              obtain ⟨wo, rfl⟩ : ∃ wo : World, wo = wr := ⟨_, rfl⟩
              clear ho hf hb7 hmap hfr Hmap
              go_wp2_with fail
              clear k0 k1 hb7l2
              have hM0 : (cp S ns ms m 0) = (names0 S N, ms) := by show (names0 S ((S : Int) + ns.length).toNat, ms) = _; rw [show ((S : Int) + ns.length).toNat = N by have := HNi.out; omega]
              have HM0 := Lib.hid hM0
              clear hM0
              go_loopw [17, 86] (fun o x wl => ∃ (k q : Nat), x = .int .i64 k ∧ k ≤ ns.length ∧ (cp S ns ms m k).2.length = ms.length + q ∧ wl.ownsRow w5.heap.size 3 1 (.slice (some ⟨w5.heap.size, 0, none⟩) N N) N (i64s (cp S ns ms m k).1) ∧
                  MapIs wl w4.heap.size kv (Value.int .i64) (pairs S (cp S ns ms m k).2) ∧ wl.ownsRow (w5.heap.size + 1) 59 4 o q (flat ((cp S ns ms m k).2.drop ms.length)) ∧ Fr [] w4 wl) (fun _ x _ => ns.length - (intOf x).toNat)
              case atStart =>
                refine ⟨0, 0, rfl, by omega, ?_⟩
                rw [HM0.out]
                refine ⟨rfl, Ho7.out, Hmap7.out, ?_, Hf7.out⟩
                simp only [List.drop_length]
                exact World.ownsRow_nil _ _ _ _
              case round =>
                obtain ⟨k, q, rfl, hk, hq, ho, hmap, hn, hf⟩ := hrel
                have hb5 := (hf.block _ hb7l (by simp)).trans Hb7.out
                have k0 := heap_eq_cell hb5 0
                have k1 := heap_eq_cell hb5 1
                have hb5l := lt_of_block hb5
                have hb6 := (hf.block _ hb8l (by simp)).trans Hb8.out
                have hb6l := lt_of_block hb6
                have hol := owns_lt ho rfl
                have hml' := hmap.lt
                obtain ⟨na, nc, rfl, _, _⟩ := owns_form hn
                obtain ⟨hcl1, hcl2, hcl3, hcl4⟩ := cp_len S ns ms m k
                by_cases hlt : k < ns.length
                · obtain ⟨x, hx⟩ : ∃ x, ns[k]? = some x := ⟨_, List.getElem?_eq_getElem hlt⟩
                  obtain ⟨_, a', c', hsl, hcell⟩ := Hra4.out
                  simp only [Value.slice.injEq] at hsl
                  obtain ⟨rfl, _, rfl⟩ := hsl
                  obtain ⟨g, off, rfl, hg, hc⟩ := hcell (by omega)
                  obtain ⟨f0, f1, f2, f3⟩ := flat_get hx
                  rw [Nat.mul_comm] at f0 f1 f2 f3
                  have hgw : ∀ j, wr.cell? ⟨g, off + j, none⟩ = w4.cell? ⟨g, off + j, none⟩ := fun j => hf.cell (p := ⟨g, off + j, none⟩) hg (by simp)
                  have e0 := (hgw _).trans (hc _ _ f0)
                  have e1 := (hgw _).trans (hc _ _ f1)
                  have e2 := (hgw _).trans (hc _ _ f2)
                  have e3 := (hgw _).trans (hc _ _ f3)
                  simp only [← Nat.add_assoc] at e1 e2 e3
                  have hgr : g < wr.heap.size := by have := hf.size; omega
                  have hSk : S + k < N := by have := HNi.out; omega
                  have hmk := (hf.cell (p := ⟨g2, S + k, none⟩) hg2 (by simp)).trans (Hmc.out (S + k) hSk)
                  have hg2r : g2 < wr.heap.size := by have := hf.size; omega
                  have hsw := cp_succ (s := S) (ms := ms) (m := m) hx
                  rw [cpStep] at hsw
                  rw [show ((S + k : Nat) : Int) = (S : Int) + k by omega] at hmk
                  have hkids := good_kids Hg.out hx
                  have hql : q ≤ k := by omega
                  generalize at' m ((S : Int) + k) = bt at *
                  generalize hst : cp S ns ms m k = st at *
                  obtain ⟨t, out⟩ := st
                  simp only at *
                  have Hq := Lib.hid hq
                  have Ho5 := Lib.hid ho
                  have Hn5 := Lib.hid hn
                  have Hf5' := Lib.hid hf
                  have Hmp := Lib.hid hmap
                  have Hsw := Lib.hid hsw
                  have Hkids := Lib.hid hkids
                  have Hx := Lib.hid hx
                  have Hb6 := Lib.hid hb6
                  have Hcl := Lib.hid (And.intro hcl1 (And.intro hcl2 (And.intro hcl3 hcl4)))
                  clear hq ho hn hf hb5 hb6 hcell hc f0 f1 f2 f3 hgw hsw hkids hst hx hmap hcl1 hcl2 hcl3 hcl4
                  cases bt
                  · go_wp2
                    go_roundw
                    case rel =>
                      refine ⟨k + 1, q, by go_num, by omega, ?_⟩
                      rw [Hsw.out, if_neg (by simp)]
                      have ho := Ho5.out
                      have hn := Hn5.out
                      have hf := Hf5'.out
                      exact ⟨Hq.out, owns_of_block ho fun y hy => heap_alloc_else _ _ _ (owns_lt ho hy), Hmp.out.of_block (heap_alloc_else _ _ _ hml'), owns_of_block hn fun y hy => heap_alloc_else _ _ _ (owns_lt hn hy), by (repeat (first | exact Fr.refl _ _ | assumption | apply Fr.drewN | apply Fr.drew | apply Fr.alloc | refine Fr.setCell ?_ (Or.inr (by simp; try omega)) _))⟩
                    case measure => simp [intOf]; omega
                  · have htl : t.length = N := by have := Hcl.out.2.2.1; have := HNi.out; omega
                    obtain ⟨⟨ka0, ka1⟩, ⟨kb0, kb1⟩, ⟨kc0, kc1⟩, ⟨kd0, kd1⟩⟩ := Hkids.out
                    have hcall : ∀ w6, Fr [] wr w6 → Calls Try.prog 30 #[.agg #[.int .i64 x.a, .int .i64 x.b, .int .i64 x.c, .int .i64 x.d], .slice (some ⟨w5.heap.size, 0, none⟩) N N] w6 fun e w' => e = .returned (kv (ren t x)) ∧ Fr [] w6 w' := fun w6 hf =>
                      renamed_calls (k := x) ((by have := Reads.of_owns Ho5.out; rw [← htl] at this ⊢; exact this : Reads wr (.slice (some ⟨w5.heap.size, 0, none⟩) N N) t.length 1 (i64s t)).fr hf) ⟨ka0, by omega⟩ ⟨kb0, by omega⟩ ⟨kc0, by omega⟩ ⟨kd0, by omega⟩
                    have hsw := Hsw.out
                    rw [if_pos rfl] at hsw
                    obtain ⟨y, hy⟩ : ∃ y, y = ren t x := ⟨_, rfl⟩
                    rw [← hy] at hcall hsw
                    have Hsw6 := Lib.hid hsw
                    have Hcall := Lib.hid hcall
                    clear hsw hcall hy Hsw htl ka0 ka1 kb0 kb1 kc0 kc1 kd0 kd1
                    go_wp2_with fail
                    refine (Hcall.out _ (by (repeat (first | exact Fr.refl _ _ | assumption | apply Fr.drewN | apply Fr.drew | apply Fr.alloc | refine Fr.setCell ?_ (Or.inr (by simp; try omega)) _)))).mono ?_
                    unfold kv
                    rintro e w8 ⟨rfl, hf8⟩
                    have hf8' : Fr [] wr w8 := Fr.trans0 (by (repeat (first | exact Fr.refl _ _ | assumption | apply Fr.drewN | apply Fr.drew | apply Fr.alloc | refine Fr.setCell ?_ (Or.inr (by simp; try omega)) _))) hf8
                    have hr6 := (hf8'.block _ hb6l (by simp)).trans Hb6.out
                    have hb58 := (hf8'.block _ hb5l (by simp)).trans ((Hf5'.out.block _ hb7l (by simp)).trans Hb7.out)
                    have hk8l := lt_of_block hb58
                    have k0 := heap_eq_cell hb58 0
                    have l0 := heap_eq_cell hr6 0
                    have l1 := heap_eq_cell hr6 1
                    have hr6l := lt_of_block hr6
                    have ho8 := owns_of_block Ho5.out fun z hz => hf8'.block z (owns_lt Ho5.out hz) (by simp)
                    have hn8 := owns_of_block Hn5.out fun z hz => hf8'.block z (owns_lt Hn5.out hz) (by simp)
                    have hm8 := Hmp.out.of_block (hf8'.block _ hml' (by simp))
                    have hm8l := hm8.lt
                    have ho8l := owns_lt ho8 rfl
                    have hsz8 := hf8'.size
                    have Hf8 := Lib.hid (Hf5'.out.trans0 hf8')
                    have Ho8 := Lib.hid ho8
                    have Hn8 := Lib.hid hn8
                    have Hm8 := Lib.hid hm8
                    have Hr6 := Lib.hid hr6
                    have Hb58 := Lib.hid hb58
                    have hcz := owns_cell ho8 rfl (i64s_get (t := t) (n := S + k) (by have := Hcl.out.2.2.1; have := HNi.out; omega))
                    have hz := owns_frozen ho8 rfl (S + k)
                    clear hf8 hf8' hr6 hb58 ho8 hn8 hm8 e0 e1 e2 e3 hmk k1
                    cases hfind : out.idxOf? y with
                    | some o =>
                      have Hfind := Lib.hid hfind
                      clear hfind
                      go_wp2_with (at_lookup; refine wpList_lookup_hit (f := kv) (g := Value.int .i64) (k := y) (z := .int .i64 0) rfl rfl rfl rfl (Hm8.out.of_block (heap_alloc_else _ _ _ hm8l)) Try.underlying73 keysQ (zero_int _) (find_hit Hfind.out) ?_)
                      go_roundw
                      case rel =>
                        refine ⟨k + 1, q, by go_num, by omega, ?_⟩
                        rw [Hsw6.out, Hfind.out]
                        simp only
                        have h1 := owns_set Ho8.out rfl (j := S + k) (by rw [Ho8.out.1]; omega) (.int .i64 ((S : Int) + o))
                        refine ⟨Hq.out, ?_, Hm8.out.of_block ((heap_alloc_else _ _ _ (by rw [hp_setCell_size]; exact hm8l)).trans (setCell_else _ _ _ (by simp; omega))), owns_of_block Hn8.out fun z hz => ?_, (Hf8.out.setCell (.inr (by simp; omega)) _).alloc _⟩
                        · rw [i64s_seti, show ((S : Int) + k).toNat = S + k by omega]
                          exact owns_of_block h1 fun z hz => heap_alloc_else _ _ _ (owns_lt h1 hz)
                        · have := owns_ge Hn8.out hz
                          have := owns_lt Hn8.out hz
                          exact (heap_alloc_else _ _ _ (by rw [hp_setCell_size]; omega)).trans (setCell_else _ _ _ (by simp; omega))
                      case measure => simp [intOf]; omega
                    | none =>
                      have Hfind := Lib.hid hfind
                      clear hfind
                      go_wp2_with (first | (at_lookup; refine wpList_lookup_miss (f := kv) (g := Value.int .i64) (k := y) (z := .int .i64 0) rfl rfl rfl rfl (Hm8.out.of_block (heap_alloc_else _ _ _ hm8l)) Try.underlying73 keysQ (zero_int _) (find_miss Hfind.out) ?_) | (at_mapUpdate; refine wpList_update_fr (f := kv) (g := Value.int .i64) (k := y) (v := (S : Int) + ms.length + q) rfl rfl rfl rfl rfl (Hm8.out.of_block (heap_alloc_else _ _ _ hm8l)) Try.underlying73 keysQ ?_))
                      intro w9 hm9 hf9 hsz9
                      have hs9 : w8.heap.size < w9.heap.size := by first | omega | (simp at hsz9; omega)
                      clear hsz9
                      have hby := (hf9.block w8.heap.size (by simp) (by simp; omega)).trans (show (w8.alloc (.cells #[.int .i64 y.a, .int .i64 y.b, .int .i64 y.c, .int .i64 y.d] 59 (0, 0))).heap[w8.heap.size]? = _ by rw [hp_alloc, if_pos rfl])
                      have r0 := heap_eq_cell hby 0
                      have r1 := heap_eq_cell hby 1
                      have r2 := heap_eq_cell hby 2
                      have r3 := heap_eq_cell hby 3
                      have hk9 : ∀ z, z < w8.heap.size → z ≠ w4.heap.size → w9.heap[z]? = w8.heap[z]? := fun z h1 h2 => (hf9.block z (by simp; omega) (by simpa using h2)).trans (heap_alloc_else _ _ _ h1)
                      have ho9 := owns_of_block Ho8.out fun z hz => hk9 z (owns_lt Ho8.out hz) (by
                        have : w5.heap.size = z := by simpa [Value.ownBlock] using hz
                        omega)
                      have hn9 := owns_of_block Hn8.out fun z hz => hk9 z (owns_lt Hn8.out hz) (by have := owns_ge Hn8.out hz; omega)
                      have hb9 := (hk9 _ hk8l (by omega)).trans Hb58.out
                      have Hf9 := Lib.hid ((Hf8.out.alloc _).trans hf9 (by simp))
                      have Hm9 := Lib.hid hm9
                      have Ho9 := Lib.hid ho9
                      have Hn9 := Lib.hid hn9
                      have Hb9 := Lib.hid hb9
                      have hm9l := hm9.lt
                      clear hm9 hf9 hby hk9 ho9 hn9 hb9 k0 l0 l1 hcz hz
                      go_wp2_with (at_builtin; refine append_quad (k := y) (n := q) (base := w5.heap.size + 1) (xs := flat (out.drop ms.length)) rfl rfl rfl ?e1 rfl ?e2 ?e3 ?e4 ?_)
                      case e1 => exact owns_of_block Hn9.out fun z hz => heap_alloc_else _ _ _ (owns_lt Hn9.out hz)
                      case e2 => (first | (rw [hp_alloc, if_pos rfl]; done) | exact (Array.getElem?_eq_some_iff.1 ((hp_alloc _ _ _).trans (if_pos rfl))).2 | (simp only [hp_drew, hp_drewN]; rw [hp_alloc, if_pos rfl]; done))
                      case e3 => omega
                      case e4 => (first | omega | (rw [hp_alloc_size]; omega) | (simp only [hp_drew, hp_drewN, hp_alloc_size]; omega) | (simp; omega))
                      intro g' cap wz hownz hWz hFz hlocz hgz
                      have hne : ∀ z, (Value.slice na q nc).ownBlock = some z → w5.heap.size + 1 ≤ z := fun z hz => owns_ge Hn9.out hz
                      have old : ∀ z, z < w5.heap.size + 1 → wz.heap[z]? = w9.heap[z]? := fun z hz => (hWz z (by first | omega | (simp; omega)) (fun e => by have := hne z e; omega)).trans (heap_alloc_else _ _ _ (by omega))
                      have hbz := (old _ (by omega)).trans Hb9.out
                      have k0 := heap_eq_cell hbz 0
                      have hbzl := lt_of_block hbz
                      have hoz := owns_of_block Ho9.out fun z hz => old z (by
                        have : w5.heap.size = z := by simpa [Value.ownBlock] using hz
                        omega)
                      have hozl := owns_lt hoz rfl
                      have hcz := owns_cell hoz rfl (i64s_get (t := t) (n := S + k) (by have := Hcl.out.2.2.1; have := HNi.out; omega))
                      have hz := owns_frozen hoz rfl (S + k)
                      have Hmz := Lib.hid (Hm9.out.of_block (old _ (by omega)))
                      have Hoz := Lib.hid hoz
                      have Hownz := Lib.hid hownz
                      have Hfz := Lib.hid ((Hf9.out.alloc _).trans hFz fun z hz => .inr (by have := hne z (by simpa using hz); omega))
                      clear r0 r1 r2 r3 hownz hWz hFz hlocz hne old hbz hoz
                      go_wp2
                      go_roundw
                      case rel =>
                        have hG : w5.heap.size + 1 ≤ g' := owns_ge Hownz.out rfl
                        have hq := Hq.out
                        have hcl := Hcl.out
                        refine ⟨k + 1, q + 1, by go_num, by omega, ?_⟩
                        rw [Hsw6.out, Hfind.out]
                        simp only
                        have ev : (S : Int) + ms.length + q = (S : Int) + out.length := by omega
                        have h1 := owns_set Hoz.out rfl (j := S + k) (by rw [Hoz.out.1]; omega) (.int .i64 ((S : Int) + ms.length + q))
                        have hmz := Hmz.out
                        rw [ev, put_miss Hfind.out] at hmz
                        have h2 : wz.ownsRow (w5.heap.size + 1) 59 4 (.slice (some ⟨g', 0, none⟩) (q + 1) cap) (q + 1) (flat ((out ++ [y]).drop ms.length)) := by
                          rw [List.drop_append_of_le_length (by omega), flat_snoc]
                          exact Hownz.out
                        refine ⟨by simp; omega, ?_, hmz.of_block (setCell_else _ _ _ (by simp; omega)), owns_of_block h2 fun z hz => ?_, Hfz.out.setCell (.inr (by simp; omega)) _⟩
                        · rw [i64s_seti, show ((S : Int) + k).toNat = S + k by omega, ← ev]
                          exact h1
                        · have : g' = z := by simpa [Value.ownBlock] using hz
                          exact setCell_else _ _ _ (by simp; omega)
                      case measure => simp [intOf]; omega
                · obtain rfl : k = ns.length := by omega
                  have hnm := cp_named Hg.out Hg'.out HLEN.out Hmk.out.down ns.length (Nat.le_refl _)
                  have hgo := hnm.good
                  generalize hst : cp S ns ms m ns.length = st at *
                  obtain ⟨t, out⟩ := st
                  simp only at *
                  have hlq : ms.length + q ≤ 100000 := by have := HLEN.out; omega
                  have hd : decide ((100000 : Int) < (ms.length : Int) + q) = false := by simp; omega
                  have l0 := heap_eq_cell hb6 0
                  have l1 := heap_eq_cell hb6 1
                  have hroot := (Hmk.out.root id (by simp)).1
                  obtain ⟨R, rfl⟩ : ∃ R : Nat, id = R := ⟨id.toNat, by have := hroot.1; omega⟩
                  have hRN : R < N := by have := hroot.2; have := HNi.out; omega
                  have htR := owns_cell ho rfl (i64s_get (t := t) (n := R) (by have := HNi.out; omega))
                  have hFl : ∀ x ∈ F, x < w.heap.size := HB.out.lt
                  have hBr := HB4.out.fr hf (by simp)
                  have hw4 := Hfw4.out.size
                  have hge := fun g (h : (Value.slice na q nc).ownBlock = some g) => owns_ge hn h
                  have hcells : ∀ (k : Nat) (y : K4), out[ms.length + k]? = some y → ∃ gm, na = some ⟨gm, 0, none⟩ ∧ w5.heap.size + 1 ≤ gm ∧ gm < wr.heap.size ∧ wr.cell? ⟨gm, k * 4, none⟩ = some (.int .i64 y.a) ∧ wr.cell? ⟨gm, k * 4 + 1, none⟩ = some (.int .i64 y.b) ∧ wr.cell? ⟨gm, k * 4 + 2, none⟩ = some (.int .i64 y.c) ∧ wr.cell? ⟨gm, k * 4 + 3, none⟩ = some (.int .i64 y.d) := fun k y hy => by
                    have hkq : k < q := by have := (List.getElem?_eq_some_iff.1 hy).1; omega
                    obtain ⟨a', c', hsl, hna, _⟩ := owns_form hn
                    simp only [Value.slice.injEq] at hsl
                    obtain ⟨rfl, _, rfl⟩ := hsl
                    obtain ⟨gm, rfl⟩ := hna (by omega)
                    obtain ⟨f0, f1, f2, f3⟩ := flat_get (ns := out.drop ms.length) (i := k) (k := y) (by rw [List.getElem?_drop]; exact hy)
                    rw [Nat.mul_comm] at f0 f1 f2 f3
                    exact ⟨gm, rfl, hge gm rfl, owns_lt hn rfl, owns_cell hn rfl f0, owns_cell hn rfl f1, owns_cell hn rfl f2, owns_cell hn rfl f3⟩
                  have Hgo := Lib.hid hgo
                  have Hst := Lib.hid hst
                  have Hq := Lib.hid hq
                  have Hf5' := Lib.hid hf
                  have HFl := Lib.hid hFl
                  have HBr := Lib.hid hBr
                  have HtR := Lib.hid htR
                  have Hcells := Lib.hid hcells
                  have Hcl := Lib.hid (And.intro hcl1 (And.intro hcl2 (And.intro hcl3 hcl4)))
                  obtain ⟨wt, rfl⟩ : ∃ wt : World, wt = wr := ⟨_, rfl⟩
                  clear hq ho hn hf hb5 hb6 hst hmap hcl1 hcl2 hcl3 hcl4 hnm hgo hroot htR hFl hBr hge hcells k0 k1
                  go_wp2_with fail
                  clear l0 l1 hd
                  go_loopw [143] (fun x wl => ∃ (k : Nat) (F' : List Nat), x = .int .i64 k ∧ k ≤ q ∧ StoreAt wl b S (out.take (ms.length + k)) F' ∧ Fr F wt wl ∧ ∀ x ∈ F', x ∈ F ∨ wt.heap.size ≤ x) (fun x _ => q - (intOf x).toNat)
                  case atStart =>
                    refine ⟨0, F, rfl, by omega, ?_, Fr.refl _ _, fun x hx => .inl hx⟩
                    rw [Nat.add_zero, Hcl.out.2.2.2]
                    exact HBr.out
                  case round =>
                    obtain ⟨k, F', rfl, hk, hS', hf', hF'⟩ := hrel
                    have hszt := hf'.size
                    have HS' := Lib.hid hS'
                    have Hf' := Lib.hid hf'
                    have HF' := Lib.hid hF'
                    by_cases hlt : k < q
                    · obtain ⟨y, hy⟩ : ∃ y, out[ms.length + k]? = some y := ⟨_, List.getElem?_eq_getElem (by have := Hq.out; omega)⟩
                      obtain ⟨gm, rfl, hgm, hgm2, c0, c1, c2, c3⟩ := Hcells.out k y hy
                      have hnF : gm ∉ F := fun h => by have := HFl.out gm h; have := hml; omega
                      have hcw : ∀ j, wr.cell? ⟨gm, j, none⟩ = wt.cell? ⟨gm, j, none⟩ := fun j => hf'.cell (p := ⟨gm, j, none⟩) hgm2 hnF
                      have e0 := (hcw _).trans c0
                      have e1 := (hcw _).trans c1
                      have e2 := (hcw _).trans c2
                      have e3 := (hcw _).trans c3
                      have hgr : gm < wr.heap.size := by omega
                      have Hy := Lib.hid hy
                      have hJ : ∀ w1, Fr [] wr w1 → Calls Try.prog 33 #[.pointer (some ⟨b, 0, none⟩), .int .i64 y.a, .int .i64 y.b, .int .i64 y.c, .int .i64 y.d] w1 (JoinPost w1 b S (out.take (ms.length + k)) F' y) := fun w1 hf => Join_calls (HS'.out.fr hf (by simp)) y
                      have HJ := Lib.hid hJ
                      clear hS' hf' hF' hy c0 c1 c2 c3 hnF hcw hJ
                      go_wp2_with fail
                      refine (HJ.out _ (by (repeat (first | exact Fr.refl _ _ | assumption | apply Fr.drewN | apply Fr.drew | apply Fr.alloc | refine Fr.setCell ?_ (Or.inr (by simp; try omega)) _)))).mono ?_
                      rintro e w2' ⟨rfl, F2, hS2, hf2, hF2⟩
                      have hgood := Hgo.out
                      have hlk : (out.take (ms.length + k)).length = ms.length + k := by rw [List.length_take]; have := Hq.out; omega
                      have hni : y ∉ out.take (ms.length + k) := fun hin => by
                        obtain ⟨j, hj⟩ := List.getElem?_of_mem hin
                        rw [List.getElem?_take] at hj
                        by_cases hjk : j < ms.length + k
                        · rw [if_pos hjk] at hj
                          have := (List.getElem?_inj (by have := Hq.out; omega) hgood.2.2.2.1).1 (hj.trans Hy.out.symm)
                          omega
                        · rw [if_neg hjk] at hj; cases hj
                      have hj := join_ok (hgood.2.2.2.2 _ _ Hy.out) hni (by rw [hlk]; omega)
                      rw [hj] at hS2 ⊢
                      have hsn : out.take (ms.length + (k + 1)) = out.take (ms.length + k) ++ [y] := by rw [← Nat.add_assoc, List.take_add_one, Hy.out]; rfl
                      have hf3 : Fr F' wr w2' := Fr.trans (by (repeat (first | exact Fr.refl _ _ | assumption | apply Fr.drewN | apply Fr.drew | apply Fr.alloc | refine Fr.setCell ?_ (Or.inr (by simp; try omega)) _))) hf2 (fun x hx => .inl hx)
                      have HS2 := Lib.hid hS2
                      have Hf3 := Lib.hid hf3
                      have Hsn := Lib.hid hsn
                      have hF2' : ∀ x ∈ F2, x ∈ F' ∨ wr.heap.size ≤ x := fun x hx => by
                        rcases hF2 x hx with h | h
                        · exact .inl h
                        · right; simp at h; omega
                      have HF2 := Lib.hid hF2'
                      clear hgood hlk hni hj hS2 hsn hf3 hf2 hF2 hF2'
                      go_wp2
                      go_roundw
                      case rel =>
                        refine ⟨k + 1, F2, by go_num, by omega, by rw [Hsn.out]; exact HS2.out, Hf'.out.trans Hf3.out fun x hx => HF'.out x hx, fun x hx => ?_⟩
                        rcases HF2.out x hx with h | h
                        · exact HF'.out x h
                        · right; omega
                      case measure => simp [intOf]; omega
                    · obtain rfl : k = q := by omega
                      have hnF : w5.heap.size ∉ F := fun h => by have := HFl.out _ h; omega
                      have htr := (hf'.cell (p := ⟨w5.heap.size, R, none⟩) hol hnF).trans HtR.out
                      have hr5 : w5.heap.size < wr.heap.size := by omega
                      clear hS' hf' hF'
                      go_wp2
                      go_ret2
                      refine ⟨fun h => (by rw [Hm.out] at h; cases h), fun m' h => ⟨fun h => absurd rfl h, fun _ => ?_⟩⟩
                      rw [Hm.out] at h
                      cases h
                      rw [Hst.out]
                      have hS := HS'.out
                      rw [List.take_of_length_le (by have := Hq.out; omega)] at hS
                      refine ⟨rfl, F', hS, ((Hfw4.out.trans0 Hf5'.out).mono (by simp)).trans Hf'.out fun x hx => .inl hx, fun x hx => ?_⟩
                      rcases HF'.out x hx with h | h
                      · exact .inl h
                      · right; have := (Hfw4.out.trans0 Hf5'.out).size; omega
    · have hd : ((S : Int) != (T : Int)) = true := by simp; omega
      go_wp2
      go_ret2
      refine ⟨fun h => (by rw [Hm.out] at h; cases h), fun m' h => ⟨fun _ => ⟨rfl, Hfw4.out⟩, fun h => by omega⟩⟩
end Go.Proofs.Ytgeomalefpjfdaa
