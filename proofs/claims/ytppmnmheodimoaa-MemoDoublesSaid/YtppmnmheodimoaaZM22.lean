/- Own texts of this claim, part 23: no condition. -/
import Derived.Deep.DeepCutAuto
import Derived.Test.YtppmnmheodimoaaZM19
import Derived.Test.YtppmnmheodimoaaZM16
import Derived.Test.YtppmnmheodimoaaZM21
import Derived.Test.YtppmnmheodimoaaZM18
set_option linter.unusedVariables false
set_option linter.unusedSimpArgs false
section
/- step of package memo. -/
namespace Go.Proofs.Mp
set_option linter.unusedVariables false
set_option linter.unusedSimpArgs false
section
variable {κ ν : Type} [DecidableEq κ]
theorem get_put_same (l : List (κ × ν)) (k : κ) (v : ν) : get? (put l k v) k = some v := by
  unfold put get?
  cases h : (l.map (·.1)).idxOf? k with
  | some i =>
    obtain ⟨hi, he, hn⟩ := List.idxOf?_eq_some_iff.1 h
    have hi' : i < l.length := by simpa using hi
    have e : (l.set i (k, v)).map (·.1) = l.map (·.1) := by
      rw [List.map_set]
      simp only
      rw [← he]
      exact List.set_getElem_self hi
    simp only
    rw [e, h]
    simp [hi']
  | none =>
    have hn := List.idxOf?_eq_none_iff.1 h
    simp only
    have e : ((l ++ [(k, v)]).map (·.1)).idxOf? k = some l.length := by
      rw [List.idxOf?_eq_some_iff]
      refine ⟨by simp, by simp, fun j hj he => ?_⟩
      have hj' : j < l.length := hj
      apply hn
      simp only [List.map_append] at he
      rw [List.getElem_append_left (by simpa using hj')] at he
      rw [← he]
      exact List.getElem_mem _
    rw [e]
    simp
theorem get_put_else (l : List (κ × ν)) {k k' : κ} (v : ν) (hne : k' ≠ k) : get? (put l k v) k' = get? l k' := by
  unfold put get?
  cases h : (l.map (·.1)).idxOf? k with
  | some i =>
    obtain ⟨hi, he, hn⟩ := List.idxOf?_eq_some_iff.1 h
    have hi' : i < l.length := by simpa using hi
    have e : (l.set i (k, v)).map (·.1) = l.map (·.1) := by
      rw [List.map_set]
      simp only
      rw [← he]
      exact List.set_getElem_self hi
    simp only
    rw [e]
    cases h2 : (l.map (·.1)).idxOf? k' with
    | none => rfl
    | some j =>
      obtain ⟨hj, hje, _⟩ := List.idxOf?_eq_some_iff.1 h2
      have : i ≠ j := fun hij => by
        subst hij
        exact hne (hje.symm.trans he)
      simp [List.getElem?_set, this]
  | none =>
    have hn := List.idxOf?_eq_none_iff.1 h
    simp only
    cases h2 : (l.map (·.1)).idxOf? k' with
    | none =>
      have hn' := List.idxOf?_eq_none_iff.1 h2
      have e : ((l ++ [(k, v)]).map (·.1)).idxOf? k' = none := by
        rw [List.idxOf?_eq_none_iff, List.map_append]
        simp only [List.mem_append, not_or]
        exact ⟨hn', by simp [hne]⟩
      rw [e]; rfl
    | some j =>
      obtain ⟨hj, hje, hjn⟩ := List.idxOf?_eq_some_iff.1 h2
      have hj' : j < l.length := by simpa using hj
      have e : ((l ++ [(k, v)]).map (·.1)).idxOf? k' = some j := by
        rw [List.idxOf?_eq_some_iff]
        refine ⟨by simp; omega, ?_, fun i hi he => ?_⟩
        · rw [← hje]
          simp only [List.map_append]
          rw [List.getElem_append_left hj]
        · simp only [List.map_append] at he
          rw [List.getElem_append_left (by simp; omega)] at he
          exact hjn i hi he
      rw [e]
      simp [List.getElem?_append_left hj']
end
end Go.Proofs.Mp
namespace Go.Proofs.Ytppmnmheodimoaa
open Go Go.RowKit Go.Proofs.Rg Go.Proofs.Mp Go.Proofs.Hp Go.Proofs.Qs Go.Proofs.Ev
set_option linter.unusedVariables false
theorem keys2 : KeysBy Try.prog 127 (pairV .i64) := KeysBy.pair (E := 3) Try.underlying127 rfl rfl rfl rfl (by decide) (by decide) Try.underlying3 (by kernel_rfl)
theorem Kept.put {r : Rule} {ns : List K4} {mm : List ((Int × Int) × Int)} (h : Kept r ns mm) {id k v : Int} {n : Nat} {t : Tr} (hi : Is r.S ns n id t) (hn : 2 ≤ n) (hk : 0 ≤ k) (hv : Is r.S ns (n - 1) v (stp (gen r) n k.toNat t)) : Kept r ns (put mm (id, k) v) := fun id' k' v' h' => by
  by_cases e : (id', k') = (id, k)
  · rw [e, get_put_same] at h'
    obtain rfl := Option.some.inj h'
    cases e
    exact ⟨n, t, hi, hn, hk, hv⟩
  · rw [get_put_else _ _ e] at h'
    exact h id' k' v' h'
theorem Keeps.put {mm : List ((Int × Int) × Int)} {key : Int × Int} {v : Int} (h : get? mm key = none) : Keeps mm (put mm key v) := fun key' v' h' => by
  by_cases e : key' = key
  · subst e; rw [h] at h'; cases h'
  · rw [get_put_else _ _ e]; exact h'
theorem map_put_has {W w : World} {rb : Nat} {mm mm' : List ((Int × Int) × Int)} {Ps : List Res} {q : Obj} (h : Has W w (mapR rb mm :: Ps)) (hq : MapIs { w with heap := w.heap.setIfInBounds rb q } rb (pairV .i64) (Value.int .i64) mm') : Has W { w with heap := w.heap.setIfInBounds rb q } (mapR rb mm' :: Ps) :=
  h.turn fun F ⟨h1, h2⟩ => ⟨F, ⟨hq, h2⟩, (Fr.refl F w).setBlock (.inl (by simp [h2])) q, fun x hx => .inl hx⟩
/-- direct does what a step of the least level should -/
def DirectAt (W : World) (r : Rule) (hv nv : Value) (mb sb rb : Nat) (L : List Tr) (n : Nat) : Prop :=
  ∀ (w : World) (Ps : List Res) (ns : List K4) (mm : List ((Int × Int) × Int)) (id : Int) (t : Tr), Has W w (memoL r hv nv mb sb rb ns mm Ps) → room r.S ns L → Kept r ns mm → Is r.S ns n id t → (∀ u ∈ subs (stp (gen r) n 0 t), u ∈ L) → RuleSrc W hv nv r Ps →
    Calls Try.prog 60 #[.pointer (some ⟨mb, 0, none⟩), .int .i64 id, .int .i64 n] w (PartPost W r hv nv mb sb rb L ns mm n (stp (gen r) n 0 t) Ps)
def PartsAt (W : World) (r : Rule) (hv nv : Value) (mb sb rb : Nat) (L : List Tr) (n : Nat) : Prop :=
  ∀ (w : World) (Ps : List Res) (ns : List K4) (mm : List ((Int × Int) × Int)) (id : Int) (k : Nat) (t : Tr), Has W w (memoL r hv nv mb sb rb ns mm Ps) → room r.S ns L → Kept r ns mm → Is r.S ns n id t → k ≤ n - lostOf (radius r.hood) → (∀ u ∈ need (gen r) (lostOf (radius r.hood)) n k t, u ∈ L) → RuleSrc W hv nv r Ps →
    Calls Try.prog 61 #[.pointer (some ⟨mb, 0, none⟩), .int .i64 id, .int .i64 n, .int .i64 k, .bool (decide (k = n - lostOf (radius r.hood)))] w (PartPost W r hv nv mb sb rb L ns mm n (stp (gen r) n k t) Ps)
theorem Most_calls {mb : Nat} {lo n : Nat} {w : World} (h : w.cell? ⟨mb, 5, none⟩ = some (.int .i64 lo)) (hn : n ≤ 256) (hlo : lo ≤ 100) :
    Calls Try.prog 12 #[.pointer (some ⟨mb, 0, none⟩), .int .i64 n] w fun e w' => e = .returned (.int .i64 (max ((n : Int) - lo) (-1))) ∧ w = w' := by
  go_enter Try.func12, Try.ntmps12
  go_wp2
  all_goals
    go_ret
    exact ⟨ret_int' (by omega), rfl⟩
theorem max_lost {n lo : Nat} (h : lo ≤ n) : max ((n : Int) - (lo : Int)) (-1) = ((n - lo : Nat) : Int) := by omega
theorem direct_k {W w : World} {r : Rule} {hv nv : Value} {mb sb rb : Nat} {L : List Tr} {ns : List K4} {mm : List ((Int × Int) × Int)} {n k : Nat} {t : Tr} {Ps : List Res} {f : FuncId} {args : Array Value} (hk : k = 0) (h : Calls Try.prog f args w (PartPost W r hv nv mb sb rb L ns mm n (stp (gen r) n 0 t) Ps)) : Calls Try.prog f args w (PartPost W r hv nv mb sb rb L ns mm n (stp (gen r) n k t) Ps) := by
  subst hk
  exact h
set_option maxHeartbeats 8000000 in
set_option maxRecDepth 100000 in
theorem step_at {W : World} {r : Rule} {hv nv : Value} {mb sb rb : Nat} {L : List Tr} {n : Nat} (hn : n ≤ 200) (hR : rightR r = true) (hd : n = lostOf (radius r.hood) → DirectAt W r hv nv mb sb rb L n) (hp : lostOf (radius r.hood) < n → PartsAt W r hv nv mb sb rb L n) : StepAt W r hv nv mb sb rb L n := by
  intro w Ps ns mm id k t h hroom hkept hi hlo hk hL hsrc
  have hl2 := lost_le (radius_le r.hood).1 (radius_le r.hood).2
  have hmap := h.swap
  obtain ⟨F9, hM, _⟩ := hmap.head
  obtain ⟨_, _, _, _, m4, m5, ml⟩ := memo_cells h
  have H := Lib.hid h
  have HM := Lib.hid hM
  have HI := Lib.hid hi
  have HD := Lib.hid (fun (e : n = lostOf (radius r.hood)) w1 (hf : Fr [] w w1) => direct_k (k := k) (by omega) (hd e w1 Ps ns mm id t (h.step hf) hroom hkept hi (by
    obtain ⟨n', rfl⟩ : ∃ n', n = n' + 1 := ⟨n - 1, by omega⟩
    intro u hu
    refine hL u ?_
    rw [need_small (by omega)]
    obtain rfl : k = 0 := by omega
    exact hu) hsrc))
  have HP := Lib.hid (fun (e : lostOf (radius r.hood) < n) w1 (hf : Fr [] w w1) => hp e w1 Ps ns mm id k t (h.step hf) hroom hkept hi hk hL hsrc)
  cases hg : get? mm (id, (k : Int)) with
  | some v =>
    have HG := Lib.hid hg
    have HR := Lib.hid (And.intro hroom hkept)
    have HRES := Lib.hid (show Is r.S ns (n - 1) v (stp (gen r) n k t) by
      obtain ⟨n', t', h1, h2, h3, h4⟩ := hkept _ _ _ hg
      have e1 : n = n' := by
        have a := h1.lvl (has_good h)
        have b := hi.lvl (has_good h)
        omega
      subst e1
      have e2 : t = t' := hi.2.1.symm.trans h1.2.1
      subst e2
      rwa [Int.toNat_natCast] at h4)
    clear h hroom hkept hi hL hd hp hmap hM hg
    go_enter Try.func36, Try.ntmps36
    go_wp2_with (at_lookup; refine wpList_lookup_hit (f := pairV .i64) (g := Value.int .i64) (k := (id, (k : Int))) (z := .int .i64 0) rfl rfl rfl rfl HM.out Try.underlying79 keys2 (zero_int _) HG.out ?_)
    go_ret2
    exact ⟨v, ns, mm, rfl, H.out, List.prefix_refl _, HR.out.1, HR.out.2, HRES.out, Keeps.refl _, HG.out, fun v' hv' => ⟨Option.some.inj (HG.out.symm.trans hv'), rfl⟩⟩
  | none =>
    have HMISS := Lib.hid hg
    clear h hroom hkept hi hL hd hp hmap hM hg
    by_cases he : n = lostOf (radius r.hood)
    · have HMO := Lib.hid (max_lost hlo ▸ Most_calls m5 (n := n) (by omega) (by omega))
      have hmo : n - lostOf (radius r.hood) = 0 := by omega
      rw [hmo] at HMO
      have HD' := Lib.hid (fun w1 (hf : Fr [] w w1) => HD.out he w1 hf)
      clear hmo
      have HE := Lib.hid he
      clear he
      go_enter Try.func36, Try.ntmps36
      go_wp2_with (first | (at_lookup; refine wpList_lookup_miss (f := pairV .i64) (g := Value.int .i64) (k := (id, (k : Int))) (z := .int .i64 0) rfl rfl rfl rfl HM.out Try.underlying79 keys2 (zero_int _) HMISS.out ?_) | (go_at_call 12; refine HMO.out.mono ?_; rintro e w5 ⟨rfl, rfl⟩) | fail)
      refine (HD'.out _ (by (repeat (first | exact Fr.refl _ _ | assumption | apply Fr.drewN | apply Fr.drew | apply Fr.alloc | refine Fr.setCell ?_ (Or.inr (by simp; try omega)) _)))).mono ?_
      rintro e w5 ⟨res, ns', mm', rfl, g1, g2, g3, g4, g5, g6⟩
      have hmap := g1.swap
      obtain ⟨F9, hM, _⟩ := hmap.head
      obtain ⟨_, _, _, _, m4, _, ml⟩ := memo_cells g1
      have HM := Lib.hid hM
      have H5 := Lib.hid (And.intro g1 (And.intro g2 (And.intro g3 (And.intro g4 (And.intro g5 g6)))))
      clear g1 g2 g3 g4 g5 g6 hmap hM m5
      go_wp2_with (at_mapUpdate; refine wpList_update_is (f := pairV .i64) (g := Value.int .i64) (k := (id, (k : Int))) (v := res) rfl rfl rfl rfl rfl HM.out Try.underlying79 keys2 ?_; intro q hq; have HQ := Lib.hid hq; clear hq m4 ml)
      go_ret2
      refine ⟨res, ns', put mm' (id, k) res, rfl, (map_put_has H5.out.1.swap HQ.out).swap, H5.out.2.1, H5.out.2.2.1, ?_, H5.out.2.2.2.2.1, fun key v hv9 => ?_, get_put_same _ _ _, fun v hv9 => by rw [HMISS.out] at hv9; cases hv9⟩
      · exact H5.out.2.2.2.1.put (HI.out.grow H5.out.2.1) (by omega) (by omega) (by rw [Int.toNat_natCast]; exact H5.out.2.2.2.2.1)
      · by_cases e : key = (id, (k : Int))
        · subst e; rw [HMISS.out] at hv9; cases hv9
        · rw [get_put_else _ _ e]; exact H5.out.2.2.2.2.2 key v hv9
    · have HMO := Lib.hid (max_lost hlo ▸ Most_calls m5 (n := n) (by omega) (by omega))
      have HP' := Lib.hid (fun w1 (hf : Fr [] w w1) => HP.out (by omega) w1 hf)
      obtain ⟨d, hd⟩ : ∃ d, n - lostOf (radius r.hood) = d := ⟨_, rfl⟩
      rw [hd] at HMO HP'
      have hd0 : ((d : Int) == 0) = false := by simp; omega
      have hkd : ((k : Int) == (d : Int)) = decide (k = d) := by
        rw [Bool.eq_iff_iff]; simp; omega
      clear hd he
      go_enter Try.func36, Try.ntmps36
      go_wp2_with (first | (at_lookup; refine wpList_lookup_miss (f := pairV .i64) (g := Value.int .i64) (k := (id, (k : Int))) (z := .int .i64 0) rfl rfl rfl rfl HM.out Try.underlying79 keys2 (zero_int _) HMISS.out ?_) | (go_at_call 12; refine HMO.out.mono ?_; rintro e w5 ⟨rfl, rfl⟩) | fail)
      refine (HP'.out _ (by (repeat (first | exact Fr.refl _ _ | assumption | apply Fr.drewN | apply Fr.drew | apply Fr.alloc | refine Fr.setCell ?_ (Or.inr (by simp; try omega)) _)))).mono ?_
      rintro e w5 ⟨res, ns', mm', rfl, g1, g2, g3, g4, g5, g6⟩
      have hmap := g1.swap
      obtain ⟨F9, hM, _⟩ := hmap.head
      obtain ⟨_, _, _, _, m4, _, ml⟩ := memo_cells g1
      have HM := Lib.hid hM
      have H5 := Lib.hid (And.intro g1 (And.intro g2 (And.intro g3 (And.intro g4 (And.intro g5 g6)))))
      clear g1 g2 g3 g4 g5 g6 hmap hM m5
      go_wp2_with (at_mapUpdate; refine wpList_update_is (f := pairV .i64) (g := Value.int .i64) (k := (id, (k : Int))) (v := res) rfl rfl rfl rfl rfl HM.out Try.underlying79 keys2 ?_; intro q hq; have HQ := Lib.hid hq; clear hq m4 ml)
      go_ret2
      refine ⟨res, ns', put mm' (id, k) res, rfl, (map_put_has H5.out.1.swap HQ.out).swap, H5.out.2.1, H5.out.2.2.1, ?_, H5.out.2.2.2.2.1, fun key v hv9 => ?_, get_put_same _ _ _, fun v hv9 => by rw [HMISS.out] at hv9; cases hv9⟩
      · exact H5.out.2.2.2.1.put (HI.out.grow H5.out.2.1) (by omega) (by omega) (by rw [Int.toNat_natCast]; exact H5.out.2.2.2.2.1)
      · by_cases e : key = (id, (k : Int))
        · subst e; rw [HMISS.out] at hv9; cases hv9
        · rw [get_put_else _ _ e]; exact H5.out.2.2.2.2.2 key v hv9
end Go.Proofs.Ytppmnmheodimoaa
end

section
/- direct of package memo. -/
namespace Go.Proofs.Ytppmnmheodimoaa
open Go Go.RowKit Go.Proofs.Rg Go.Proofs.Mp Go.Proofs.Hp Go.Proofs.Qs Go.Proofs.Ev
set_option linter.unusedVariables false
set_option linter.unusedSimpArgs false
theorem setCell_swap (w : World) {a b i j : Nat} (h : a ≠ b) (u v : Value) : (w.setCell ⟨a, i, none⟩ u).setCell ⟨b, j, none⟩ v = (w.setCell ⟨b, j, none⟩ v).setCell ⟨a, i, none⟩ u := by
  unfold World.setCell
  congr 1
  apply Array.ext_getElem?
  intro k
  simp only [Array.getElem?_modify]
  by_cases ha : a = k
  · by_cases hb : b = k
    · exact absurd (ha.trans hb.symm) h
    · simp [ha, hb]
  · by_cases hb : b = k
    · simp [ha, hb]
    · simp [ha, hb]
def nilS : Value := .slice none 0 0
theorem make_rows4 (w : World) : (Instr.makeSlice 54 (.int .i64 4) (.int .i64 4)).run Try.prog w = .ok (.slice (some ⟨w.heap.size, 0, none⟩) 4 4) (w.alloc (.cells #[.slice none 0 0, .slice none 0 0, .slice none 0 0, .slice none 0 0] 71 (0, 0))) := by kernel_rfl
theorem make_row4 (w : World) : (Instr.makeSlice 71 (.int .i64 4) (.int .i64 4)).run Try.prog w = .ok (.slice (some ⟨w.heap.size, 0, none⟩) 4 4) (w.alloc (.cells #[.int .i64 0, .int .i64 0, .int .i64 0, .int .i64 0] 3 (0, 0))) := by kernel_rfl
/-- a square table while its rows are made -/
def pmatR (ob m : Nat) (bs : List Nat) : Res where
  holds w G := (bs.length ≤ m ∧ w.heap[ob]? = some (.cells (bs.map (rowV m) ++ List.replicate (m - bs.length) (Value.slice none 0 0)).toArray 71 (0, 0)) ∧ (∀ (i b : Nat), bs[i]? = some b → w.heap[b]? = some (Obj.cells (iv (List.replicate m 0)).toArray 3 (0, 0))) ∧ bs.Nodup ∧ ob ∉ bs) ∧ G = ob :: bs
  keep := fun ⟨⟨h1, h2, h3, h4, h5⟩, h6⟩ hk => ⟨⟨h1, by rw [hk ob (by simp [h6])]; exact h2, fun i b hb => by rw [hk b (by rw [h6]; simp [List.mem_of_getElem? hb])]; exact h3 i b hb, h4, h5⟩, h6⟩
  lt := fun ⟨⟨h1, h2, h3, h4, h5⟩, h6⟩ x hx => by
    rw [h6, List.mem_cons] at hx
    rcases hx with rfl | hx
    · exact lt_of_block h2
    · obtain ⟨i, hi, rfl⟩ := List.mem_iff_getElem.1 hx
      exact lt_of_block (h3 i _ (List.getElem?_eq_getElem hi))
theorem pmat_list {m b : Nat} {bs : List Nat} (hl : bs.length < m) : (bs.map (rowV m) ++ List.replicate (m - bs.length) (Value.slice none 0 0)).set bs.length (rowV m b) = (bs ++ [b]).map (rowV m) ++ List.replicate (m - (bs ++ [b]).length) (Value.slice none 0 0) := by
  obtain ⟨d, hd⟩ : ∃ d, m - bs.length = d + 1 := ⟨m - bs.length - 1, by omega⟩
  rw [hd, List.replicate_succ, List.set_append_right _ _ (by simp), List.map_append, List.append_assoc]
  simp
  congr 1
  omega
section
variable {W w : World} {ob m : Nat} {bs : List Nat} {Ps : List Res}
theorem pmat_start {cs : Array Value} (h : Has W w (Hp.blk ob (.cells cs 71 (0, 0)) :: Ps)) (hc : cs = (List.replicate m (.slice none 0 0)).toArray) : Has W w (pmatR ob m [] :: Ps) :=
  h.turn fun F ⟨h1, h2⟩ => ⟨F, ⟨⟨by simp, by rw [h1, hc]; simp, by simp, by simp, by simp⟩, h2⟩, Fr.refl _ _, fun x hx => .inl hx⟩
/-- a row is laid into the table -/
theorem pmat_put {b : Nat} {cs : Array Value} (h : Has W w (Hp.blk b (.cells cs 3 (0, 0)) :: pmatR ob m bs :: Ps)) (hc : cs = (iv (List.replicate m 0)).toArray) (hl : bs.length < m) : Has W (w.setCell ⟨ob, bs.length, none⟩ (rowV m b)) (pmatR ob m (bs ++ [b]) :: Ps) := by
  obtain ⟨G, ⟨F1, F2, ⟨h1, h2⟩, ⟨G1, G2, ⟨⟨g1, g2, g3, g4, g5⟩, g6⟩, k2, k3, rfl⟩, h4, rfl⟩, hf, hge⟩ := h
  subst h2
  subst g6
  have hbo : b ≠ ob := fun e => h4 b (by simp) (by rw [e]; simp)
  have hbb : b ∉ bs := fun e => h4 b (by simp) (by simp [e])
  refine ⟨ob :: (bs ++ [b]) ++ G2, ⟨ob :: (bs ++ [b]), G2, ⟨⟨by simp; omega, ?_, fun i c hc' => ?_, ?_, ?_⟩, rfl⟩, ?_, ?_, rfl⟩, ?_, ?_⟩
  · rw [heap_setCell_here g2 bs.length (rowV m b), ← pmat_list hl]
    simp
  · have hne : c ≠ ob := by
      intro e
      rw [e] at hc'
      have := List.mem_of_getElem? hc'
      simp only [List.mem_append, List.mem_singleton] at this
      rcases this with h | h
      · exact g5 h
      · exact hbo h.symm
    rw [heap_setCell_else _ _ _ _ hne]
    rcases List.mem_append.1 (List.mem_of_getElem? hc') with h | h
    · obtain ⟨j, hj, hje⟩ := List.mem_iff_getElem.1 h
      exact g3 j c (by rw [List.getElem?_eq_getElem hj, hje])
    · rw [List.mem_singleton] at h
      rw [h, h1, hc]
  · rw [List.nodup_append]
    exact ⟨g4, by simp, fun x hx y hy e => by simp at hy; subst hy; subst e; exact hbb hx⟩
  · simp only [List.mem_append, List.mem_singleton, not_or]
    exact ⟨g5, Ne.symm hbo⟩
  · exact k2.keep fun x hx => heap_setCell_else _ _ _ _ fun e : x = ob => k3 ob (by simp) (by rw [← e]; exact hx)
  · intro x hx hx2
    simp only [List.mem_cons, List.mem_append, List.not_mem_nil, or_false] at hx
    rcases hx with rfl | hx | rfl
    · exact k3 x (by simp) hx2
    · exact k3 x (by simp [hx]) hx2
    · exact h4 x (by simp) (by simp [hx2])
  · exact hf.setCell (.inr (hge ob (by simp))) _
  · intro x hx
    refine hge x ?_
    simp only [List.mem_append, List.mem_cons, List.not_mem_nil, or_false] at hx ⊢
    rcases hx with (rfl | hx | rfl) | hx <;> simp [*]
theorem pmat_full (h : Has W w (pmatR ob m bs :: Ps)) (hl : bs.length = m) : Has W w (matR ob m bs (fun _ _ => 0) :: Ps) :=
  h.turn fun F ⟨⟨h1, h2, h3, h4, h5⟩, h6⟩ => ⟨F, ⟨⟨hl, by rw [h2, hl]; simp, fun i b hb => by rw [h3 i b hb]; congr 4; apply List.ext_getElem?; intro j; simp [rowL]; by_cases hj : j < m <;> simp [hj], h4, h5⟩, h6⟩, Fr.refl _ _, fun x hx => .inl hx⟩
theorem pmat_cell (h : Has W w (pmatR ob m bs :: Ps)) (hl : bs.length < m) : (∃ v, w.cell? ⟨ob, bs.length, none⟩ = some v ∧ v = .slice none 0 0) ∧ w.frozen? ⟨ob, bs.length, none⟩ = false ∧ ob < w.heap.size := by
  obtain ⟨F, ⟨⟨h1, h2, h3, h4, h5⟩, h6⟩⟩ := h.head
  refine ⟨⟨_, ?_, rfl⟩, heap_eq_frozen h2 _, lt_of_block h2⟩
  rw [heap_eq_cell h2]
  obtain ⟨d, hd⟩ : ∃ d, m - bs.length = d + 1 := ⟨m - bs.length - 1, by omega⟩
  rw [hd]
  simp
theorem has_two5 {A B C D E : Res} (h : Has W w (E :: D :: A :: B :: C :: Ps)) : Has W w (A :: B :: C :: D :: E :: Ps) :=
  Has.fifth (h.perm ((List.perm_append_comm (l₁ := [E, D]) (l₂ := [A, B, C])).append_right Ps))
/-- two tables that are made one after the other -/
theorem two_tabs {A B C : Res} {X : Array Value} (h : Has W w (A :: B :: C :: Ps)) (hX : X = (List.replicate m (.slice none 0 0)).toArray) :
    Has W ((w.alloc (.cells X 71 (0, 0))).alloc (.cells X 71 (0, 0))) (A :: B :: C :: pmatR w.heap.size m [] :: pmatR (w.heap.size + 1) m [] :: Ps) := by
  have h1 := has_alloc (has_alloc h X 71) X 71
  rw [hp_alloc_size] at h1
  exact has_two5 (pmat_start (pmat_start h1.swap hX).swap hX)
/-- two rows that are made and laid into the tables -/
theorem two_rows {A B C : Res} {X : Array Value} {oa ob : Nat} {aL bs : List Nat} (h : Has W w (A :: B :: C :: pmatR oa m aL :: pmatR ob m bs :: Ps)) (hX : X = (iv (List.replicate m 0)).toArray) (ha : aL.length < m) (hb : bs.length < m) :
    Has W ((((w.alloc (.cells X 3 (0, 0))).alloc (.cells X 3 (0, 0))).setCell ⟨oa, aL.length, none⟩ (rowV m w.heap.size)).setCell ⟨ob, bs.length, none⟩ (rowV m (w.heap.size + 1))) (A :: B :: C :: pmatR oa m (aL ++ [w.heap.size]) :: pmatR ob m (bs ++ [w.heap.size + 1]) :: Ps) := by
  have h1 := has_alloc (has_alloc h X 3) X 3
  rw [hp_alloc_size] at h1
  have p : [Hp.blk (w.heap.size + 1) (.cells X 3 (0, 0)), Hp.blk w.heap.size (.cells X 3 (0, 0)), A, B, C, pmatR oa m aL, pmatR ob m bs].Perm [Hp.blk w.heap.size (.cells X 3 (0, 0)), pmatR oa m aL, Hp.blk (w.heap.size + 1) (.cells X 3 (0, 0)), pmatR ob m bs, A, B, C] := by
    refine (List.Perm.swap _ _ _).trans (List.Perm.cons _ ?_)
    refine ((List.perm_append_comm (l₁ := [Hp.blk (w.heap.size + 1) (.cells X 3 (0, 0)), A, B, C]) (l₂ := [pmatR oa m aL])).append_right [pmatR ob m bs]).trans (List.Perm.cons _ (List.Perm.cons _ ?_))
    exact List.perm_append_comm (l₁ := [A, B, C]) (l₂ := [pmatR ob m bs])
  have h2 := pmat_put (h1.perm (p.append_right Ps)) hX ha
  have q : [pmatR oa m (aL ++ [w.heap.size]), Hp.blk (w.heap.size + 1) (.cells X 3 (0, 0)), pmatR ob m bs, A, B, C].Perm [Hp.blk (w.heap.size + 1) (.cells X 3 (0, 0)), pmatR ob m bs, pmatR oa m (aL ++ [w.heap.size]), A, B, C] :=
    (List.Perm.swap _ _ _).trans (List.Perm.cons _ (List.Perm.swap _ _ _))
  have h3 := pmat_put (h2.perm (q.append_right Ps)) hX hb
  exact has_two5 h3
theorem pmat_ne {A B C : Res} {oa ob : Nat} {al bl : List Nat} (h : Has W w (A :: B :: C :: pmatR oa m al :: pmatR ob m bl :: Ps)) : oa ≠ ob := by
  have p : [A, B, C, pmatR oa m al, pmatR ob m bl].Perm [pmatR oa m al, pmatR ob m bl, A, B, C] := List.perm_append_comm (l₁ := [A, B, C]) (l₂ := [pmatR oa m al, pmatR ob m bl])
  obtain ⟨F, ⟨F1, F2, h1, ⟨G1, G2, g1, _, _, rfl⟩, h3, _⟩, _⟩ := h.perm (p.append_right Ps)
  obtain ⟨_, rfl⟩ := h1
  obtain ⟨_, rfl⟩ := g1
  intro e
  exact h3 oa (by simp) (by simp [e])
theorem pmat_lt {A B C : Res} {oa ob : Nat} {al bl : List Nat} (h : Has W w (A :: B :: C :: pmatR oa m al :: pmatR ob m bl :: Ps)) : oa < w.heap.size ∧ ob < w.heap.size := by
  obtain ⟨F, ⟨⟨_, h2, _⟩, _⟩⟩ := h.fourth.head
  obtain ⟨G, ⟨⟨_, g2, _⟩, _⟩⟩ := h.fifth.fourth.head
  exact ⟨lt_of_block h2, lt_of_block g2⟩
/-- the same, as the walk spells it -/
theorem two_rows' {A B C : Res} {X : Array Value} {oa ob i : Nat} {al bl : List Nat} (h : Has W w (A :: B :: C :: pmatR oa m al :: pmatR ob m bl :: Ps)) (hX : X = (iv (List.replicate m 0)).toArray) (ha : al.length = i) (hb : bl.length = i) (hi : i < m) :
    Has W ((((w.setCell ⟨oa, i, none⟩ (rowV m w.heap.size)).setCell ⟨ob, i, none⟩ (rowV m (w.heap.size + 1))).alloc (.cells X 3 (0, 0))).alloc (.cells X 3 (0, 0))) (A :: B :: C :: pmatR oa m (al ++ [w.heap.size]) :: pmatR ob m (bl ++ [w.heap.size + 1]) :: Ps) := by
  obtain ⟨l1, l2⟩ := pmat_lt h
  have h1 := two_rows h hX (by omega) (by omega)
  rw [ha, hb] at h1
  rw [World.setCell_alloc_past _ _ _ _ (by simp; omega), World.setCell_alloc_past _ _ _ _ l1, World.setCell_alloc_past _ _ _ _ (by simp; omega), World.setCell_alloc_past _ _ _ _ (by simp; omega)] at h1
  exact h1
end
/-- the table of the next generation while it is filled -/
structure NextSt (W wr : World) (r : Rule) (hv nv : Value) (mb sb rb : Nat) (ns : List K4) (mm : List ((Int × Int) × Int)) (Ps : List Res) (oa ob m : Nat) (al bl : List Nat) (F0 G : Fld) (lo y x : Nat) : Prop where
  has : Has W wr (memoL r hv nv mb sb rb ns mm (matR oa m al F0 :: matR ob m bl G :: Ps))
  done : ∀ i j : Nat, lo ≤ i → i < m - lo → lo ≤ j → j < m - lo → (j < y ∨ j = y ∧ i < x) → G i j = gen r F0 i j
theorem NextSt.put {W wr wr' : World} {r : Rule} {hv nv : Value} {mb sb rb : Nat} {ns : List K4} {mm : List ((Int × Int) × Int)} {Ps : List Res} {oa ob m : Nat} {al bl : List Nat} {F0 G : Fld} {lo y x b : Nat} (h : NextSt W wr r hv nv mb sb rb ns mm Ps oa ob m al bl F0 G lo y x)
    (hf : Fr [] wr wr') (hx : x < m) (hb : bl[y]? = some b) {v : Int} (hv' : v = gen r F0 x y) : ∃ G', NextSt W (wr'.setCell ⟨b, x, none⟩ (.int .i64 v)) r hv nv mb sb rb ns mm Ps oa ob m al bl F0 G' lo y (x + 1) := by
  refine ⟨fun i j => if i = x ∧ j = y then v else G i j, ⟨?_, fun i j h1 h2 h3 h4 h5 => ?_⟩⟩
  · have h1 := mat_set (h.has.step hf).fifth.fourth hx hb (v := v) (G := fun i j => if i = x ∧ j = y then v else G i j) fun i j => by
      by_cases e : i = x ∧ j = y
      · rw [if_pos e, if_pos (by omega)]
      · rw [if_neg e, if_neg (by omega)]
    exact h1.back4.fifth
  · by_cases e : i = x ∧ j = y
    · obtain ⟨rfl, rfl⟩ := e
      show (if _ ∧ _ then v else _) = _
      rw [if_pos ⟨rfl, rfl⟩]
      exact hv'
    · show (if _ ∧ _ then v else _) = _
      rw [if_neg (by omega)]
      exact h.done i j h1 h2 h3 h4 (by omega)
theorem take_map_succ {l : List (Int × Int)} {k : Nat} {p : Int × Int} (hk : l[k]? = some p) (f : Int × Int → Int) : (l.take (k + 1)).map f = (l.take k).map f ++ [f p] := by
  rw [List.take_add_one, hk]; simp
/-- one step down a rule's tree, where its cells lie -/
theorem down_cell {w : World} {r : Rule} {na : Option Addr} {nc : Nat} (hR : rightR r = true) (hn : NodesAt w (.slice na r.nodes.length nc) r.nodes) {ss : List Int} (hs : ∀ s ∈ ss, 0 ≤ s ∧ s < r.S) (hl : ss.length < r.hood.length) {s : Int} (hs0 : 0 ≤ s) (hs1 : s < r.S) :
    ∃ (k : Nat) (g off : Nat) (g2 off2 rl rc : Nat), down r ss = k ∧ k < r.nodes.length ∧ na = some ⟨g, off, none⟩ ∧ g < w.heap.size ∧ w.cell? ⟨g, off + k * 2 + 1, none⟩ = some (.slice (some ⟨g2, off2, none⟩) rl rc) ∧ (rl : Int) = r.S ∧ g2 < w.heap.size ∧ w.cell? ⟨g2, off2 + s.toNat, none⟩ = some (.int .i64 (nextAt r k s)) := by
  obtain ⟨h1, h2, h3⟩ := (down_at hR hs (by omega)).1 hl
  obtain ⟨k, hk⟩ : ∃ k : Nat, down r ss = k := ⟨(down r ss).toNat, by omega⟩
  rw [hk] at h2 h3
  have hlt : k < r.nodes.length := by omega
  have hx : r.nodes[k]? = some r.nodes[k] := List.getElem?_eq_getElem hlt
  have hok := right_node hR hlt
  rw [nodeOK_eq hx, Bool.and_eq_true, decide_eq_true_eq] at hok
  obtain ⟨⟨_, _, hS⟩, _⟩ := hok
  obtain ⟨g, off, ra, rc, rfl, hg, _, hc, hi⟩ := hn.node hx
  have hsx : (r.nodes[k]).2[s.toNat]? = some (nextAt r k s) := by
    unfold nextAt
    rw [Int.toNat_natCast, show r.nodes.getD k (0, []) = r.nodes[k] by rw [List.getD_eq_getElem?_getD, hx]; rfl, List.getD_eq_getElem?_getD, List.getElem?_eq_getElem (by omega)]
    rfl
  obtain ⟨g2, off2, rfl, hg2, hc2⟩ := hi.cell hsx
  exact ⟨k, g, off, g2, off2, _, rc, hk, hlt, rfl, hg, hc, hS, hg2, hc2⟩
end Go.Proofs.Ytppmnmheodimoaa
end
