/- Own texts of this claim, part 6: no condition. -/
import Derived.Test.YtjidldfnlejdhaaZM4
set_option linter.unusedVariables false
set_option linter.unusedSimpArgs false
section
/- Big integers: plus, minus. -/
namespace Go.Proofs.Ytjidldfnlejdhaa
set_option linter.unusedVariables false
set_option linter.unusedSimpArgs false
open Go Go.RowKit Go.Proofs.Rg Go.Proofs.Hp Go.Proofs.Bn
/-- fresh digits with a value -/
def FreshPost (w : World) (V n : Nat) (e : Ending) (w' : World) : Prop :=
  ∃ a c ds, e = .returned (.slice a ds.length c) ∧ w'.ownsRow w.heap.size 71 1 (.slice a ds.length c) ds.length (u32s ds) ∧ Dig 4294967296 ds ∧ val 4294967296 ds = V ∧ ds.length ≤ n ∧ ds.length ≤ c ∧ Fr [] w w'
set_option maxHeartbeats 4000000 in
set_option maxRecDepth 100000 in
theorem plus_calls {w : World} {da db : List Nat} {va vb : Value} (ha : Reads w va da.length 1 (u32s da)) (hb : Reads w vb db.length 1 (u32s db)) (hDa : Dig 4294967296 da) (hDb : Dig 4294967296 db) (hla : da.length ≤ 100000) (hlb : db.length ≤ 100000) :
    Calls Try.prog 66 #[va, vb] w (FreshPost w (val 4294967296 da + val 4294967296 db) (max da.length db.length + 1)) := by
  have hda := fun w1 (hf : Fr [] w w1) i => digit_calls (ha.fr hf) (by omega) i
  have hdb := fun w1 (hf : Fr [] w w1) i => digit_calls (hb.fr hf) (by omega) i
  have Hda := Lib.hid hda
  have Hdb := Lib.hid hdb
  obtain ⟨_, a, ac, rfl, _⟩ := ha
  obtain ⟨_, b, bc, rfl, _⟩ := hb
  have HDa := Lib.hid hDa
  have HDb := Lib.hid hDb
  clear hda hdb hDa hDb
  have Hna := Lib.hid (show ((da.length : Int) + 1) = ((da.length + 1 : Nat) : Int) by omega)
  have Hnb := Lib.hid (show ((db.length : Int) + 1) = ((db.length + 1 : Nat) : Int) by omega)
  by_cases hlt : da.length < db.length
  · go_enter Try.func66, Try.ntmps66
    go_wp2_with (refine wpList_make1 rfl (t := 39) (e := 71) (n := db.length + 1) (z := .int .u32 0) (bytes := 4) rfl (congrArg (Value.int .i64) Hnb.out) (congrArg (Value.int .i64) Hnb.out) Try.underlying39 info_u32 rfl (by omega) (by unfold maxLen; omega) ?_)
    intro w1 ho1 hf1 hsz1
    obtain ⟨n, hn⟩ : ∃ n : Nat, db.length + 1 = n := ⟨_, rfl⟩
    have hni : ((db.length : Int) + 1) = n := by omega
    rw [hn] at ho1
    rw [hn, hni]
    have hn1 : da.length + 1 ≤ n := by omega
    have hn2 : db.length + 1 ≤ n := by omega
    have hn3 : n ≤ max da.length db.length + 1 := by omega
    have hn4 : n ≤ 100001 := by omega
    have HN3 := Lib.hid hn3
    have Ho1 := Lib.hid ho1
    have Hf1 := Lib.hid hf1
    clear ho1 hf1 hn hni hlt hn3
    go_wp2_with fail
    go_loopw [7, 18] (fun xc xk wl => ∃ (k c : Nat) (l : List Nat), xc = .int .u64 c ∧ xk = .int .i64 k ∧ k ≤ n ∧ c < 4294967296 ∧ l.length = n ∧ Dig 4294967296 l ∧ val 4294967296 (l.take k) + 4294967296 ^ k * c = val 4294967296 (da.take k) + val 4294967296 (db.take k) ∧
        wl.ownsRow w.heap.size 71 1 (.slice (some ⟨w.heap.size, 0, none⟩) n n) n (u32s l) ∧ Fr [] w wl) (fun _ xk _ => n - (intOf xk).toNat)
    case atStart => exact ⟨0, 0, List.replicate n 0, rfl, rfl, by omega, by omega, List.length_replicate, Dig.replicate (by omega) n, by simp [val], by rw [u32s_zero]; exact Ho1.out, Hf1.out⟩
    case round =>
      obtain ⟨k, c, l, rfl, rfl, hk, hc, hl, hD, hv, ho, hf⟩ := hrel
      have hol := owns_lt ho rfl
      have Ho := Lib.hid ho
      have Hf := Lib.hid hf
      have HD := Lib.hid hD
      have Hv := Lib.hid hv
      have Hl := Lib.hid hl
      by_cases hkn : k < n
      · have hcz := owns_cell ho rfl (u32s_get (l := l) (i := k) (by omega))
        have hz := owns_frozen ho rfl k
        have hxl := HDa.out.getD (by omega : 0 < 4294967296) k
        have hyl := HDb.out.getD (by omega : 0 < 4294967296) k
        have hst := sum_step (B := 4294967296) (s := c + da.getD k 0 + db.getD k 0) (by omega) hv rfl
        rw [← val_take_succ, ← val_take_succ, ← Nat.pow_succ] at hst
        have hda := fun w2 (hf2 : Fr [] w w2) => Hda.out w2 hf2 k
        have hdb := fun w2 (hf2 : Fr [] w w2) => Hdb.out w2 hf2 k
        have hca := fun (w2 : World) (b : Nat) (hb : w2.heap[b]? = some (.cells #[.int .u32 (da.getD k 0 : Nat), .int .u32 (db.getD k 0 : Nat)] 71 (0, 0))) => carry_calls (c := c) hc hxl hyl hb
        have hset := fun d => owns_set ho rfl (j := k) (by rw [u32s_length]; omega) (.int .u32 d)
        have Hset := Lib.hid hset
        have Hst := Lib.hid hst
        have HA := Lib.hid hda
        have HB := Lib.hid hdb
        have HC := Lib.hid hca
        clear ho hf hD hv hl hst hda hdb hca hset
        generalize da.getD k 0 = x at *
        generalize db.getD k 0 = y at *
        generalize l.getD k 0 = z at *
        go_wp2_with fail
        refine (HA.out _ Hf.out).mono ?_
        rintro e w2 ⟨rfl, rfl⟩
        go_wp2_with fail
        refine (HB.out _ Hf.out).mono ?_
        rintro e w2 ⟨rfl, rfl⟩
        go_wp2_with fail
        refine (HC.out _ _ (by (repeat first | rw [if_pos (by omega)] | rw [if_neg (by omega)] | rw [hp_drew] | rw [hp_drewN] | rw [hp_alloc_size] | rw [hp_setCell_size] | rw [hp_alloc] | rw [hp_setCell] | rw [oMS] | rw [upd_cells] | rw [lSZ] | rw [lSS] | rfl))).mono ?_
        rintro e w2 ⟨rfl, rfl⟩
        have hdl : (c + x + y) % 4294967296 < 4294967296 := Nat.mod_lt _ (by omega)
        have hcl : (c + x + y) / 4294967296 < 4294967296 := by omega
        generalize (c + x + y) % 4294967296 = d at *
        generalize (c + x + y) / 4294967296 = c2 at *
        clear hxl hyl
        go_wp2
        go_roundw
        case rel =>
          refine ⟨k + 1, c2, l.set k d, rfl, by go_num, by omega, hcl, by rw [List.length_set]; exact Hl.out, HD.out.set hdl, ?_, ?_, ?_⟩
          · rw [val_set_take (by have := Hl.out; omega)]; exact Hst.out
          · rw [u32s_set]
            refine owns_of_block (Hset.out d) fun z hz => ?_
            have hzz : w.heap.size = z := by simpa [Value.ownBlock] using hz
            subst hzz
            exact heap_alloc_else _ _ _ (by rw [hp_setCell_size]; exact hol)
          · exact (Hf.out.setCell (.inr (by simp)) _).alloc _
        case measure => simp [intOf]; omega
      · obtain rfl : k = n := by omega
        have hv' := Hv.out
        rw [List.take_of_length_le (by have := Hl.out; omega), List.take_of_length_le (by omega), List.take_of_length_le (by omega)] at hv'
        have hc0 := plus_end (by omega) hv' (val_lt HDa.out) (val_lt HDb.out) hn1 hn2
        subst hc0
        have Hv2 := Lib.hid hv'
        clear ho hf hD hv hl hv'
        go_wp2
        go_ret
        have hl := Hl.out
        subst hl
        exact ⟨_, _, l, rfl, Ho.out, HD.out, by have h := Hv2.out; first | exact h | (rw [Nat.mul_zero, Nat.add_zero] at h; exact h), HN3.out, Nat.le_refl _, Hf.out⟩
  · go_enter Try.func66, Try.ntmps66
    go_wp2_with (refine wpList_make1 rfl (t := 39) (e := 71) (n := da.length + 1) (z := .int .u32 0) (bytes := 4) rfl (congrArg (Value.int .i64) Hna.out) (congrArg (Value.int .i64) Hna.out) Try.underlying39 info_u32 rfl (by omega) (by unfold maxLen; omega) ?_)
    intro w1 ho1 hf1 hsz1
    obtain ⟨n, hn⟩ : ∃ n : Nat, da.length + 1 = n := ⟨_, rfl⟩
    have hni : ((da.length : Int) + 1) = n := by omega
    rw [hn] at ho1
    rw [hn, hni]
    have hn1 : da.length + 1 ≤ n := by omega
    have hn2 : db.length + 1 ≤ n := by omega
    have hn3 : n ≤ max da.length db.length + 1 := by omega
    have hn4 : n ≤ 100001 := by omega
    have HN3 := Lib.hid hn3
    have Ho1 := Lib.hid ho1
    have Hf1 := Lib.hid hf1
    clear ho1 hf1 hn hni hlt hn3
    go_wp2_with fail
    go_loopw [7, 18] (fun xc xk wl => ∃ (k c : Nat) (l : List Nat), xc = .int .u64 c ∧ xk = .int .i64 k ∧ k ≤ n ∧ c < 4294967296 ∧ l.length = n ∧ Dig 4294967296 l ∧ val 4294967296 (l.take k) + 4294967296 ^ k * c = val 4294967296 (da.take k) + val 4294967296 (db.take k) ∧
        wl.ownsRow w.heap.size 71 1 (.slice (some ⟨w.heap.size, 0, none⟩) n n) n (u32s l) ∧ Fr [] w wl) (fun _ xk _ => n - (intOf xk).toNat)
    case atStart => exact ⟨0, 0, List.replicate n 0, rfl, rfl, by omega, by omega, List.length_replicate, Dig.replicate (by omega) n, by simp [val], by rw [u32s_zero]; exact Ho1.out, Hf1.out⟩
    case round =>
      obtain ⟨k, c, l, rfl, rfl, hk, hc, hl, hD, hv, ho, hf⟩ := hrel
      have hol := owns_lt ho rfl
      have Ho := Lib.hid ho
      have Hf := Lib.hid hf
      have HD := Lib.hid hD
      have Hv := Lib.hid hv
      have Hl := Lib.hid hl
      by_cases hkn : k < n
      · have hcz := owns_cell ho rfl (u32s_get (l := l) (i := k) (by omega))
        have hz := owns_frozen ho rfl k
        have hxl := HDa.out.getD (by omega : 0 < 4294967296) k
        have hyl := HDb.out.getD (by omega : 0 < 4294967296) k
        have hst := sum_step (B := 4294967296) (s := c + da.getD k 0 + db.getD k 0) (by omega) hv rfl
        rw [← val_take_succ, ← val_take_succ, ← Nat.pow_succ] at hst
        have hda := fun w2 (hf2 : Fr [] w w2) => Hda.out w2 hf2 k
        have hdb := fun w2 (hf2 : Fr [] w w2) => Hdb.out w2 hf2 k
        have hca := fun (w2 : World) (b : Nat) (hb : w2.heap[b]? = some (.cells #[.int .u32 (da.getD k 0 : Nat), .int .u32 (db.getD k 0 : Nat)] 71 (0, 0))) => carry_calls (c := c) hc hxl hyl hb
        have hset := fun d => owns_set ho rfl (j := k) (by rw [u32s_length]; omega) (.int .u32 d)
        have Hset := Lib.hid hset
        have Hst := Lib.hid hst
        have HA := Lib.hid hda
        have HB := Lib.hid hdb
        have HC := Lib.hid hca
        clear ho hf hD hv hl hst hda hdb hca hset
        generalize da.getD k 0 = x at *
        generalize db.getD k 0 = y at *
        generalize l.getD k 0 = z at *
        go_wp2_with fail
        refine (HA.out _ Hf.out).mono ?_
        rintro e w2 ⟨rfl, rfl⟩
        go_wp2_with fail
        refine (HB.out _ Hf.out).mono ?_
        rintro e w2 ⟨rfl, rfl⟩
        go_wp2_with fail
        refine (HC.out _ _ (by (repeat first | rw [if_pos (by omega)] | rw [if_neg (by omega)] | rw [hp_drew] | rw [hp_drewN] | rw [hp_alloc_size] | rw [hp_setCell_size] | rw [hp_alloc] | rw [hp_setCell] | rw [oMS] | rw [upd_cells] | rw [lSZ] | rw [lSS] | rfl))).mono ?_
        rintro e w2 ⟨rfl, rfl⟩
        have hdl : (c + x + y) % 4294967296 < 4294967296 := Nat.mod_lt _ (by omega)
        have hcl : (c + x + y) / 4294967296 < 4294967296 := by omega
        generalize (c + x + y) % 4294967296 = d at *
        generalize (c + x + y) / 4294967296 = c2 at *
        clear hxl hyl
        go_wp2
        go_roundw
        case rel =>
          refine ⟨k + 1, c2, l.set k d, rfl, by go_num, by omega, hcl, by rw [List.length_set]; exact Hl.out, HD.out.set hdl, ?_, ?_, ?_⟩
          · rw [val_set_take (by have := Hl.out; omega)]; exact Hst.out
          · rw [u32s_set]
            refine owns_of_block (Hset.out d) fun z hz => ?_
            have hzz : w.heap.size = z := by simpa [Value.ownBlock] using hz
            subst hzz
            exact heap_alloc_else _ _ _ (by rw [hp_setCell_size]; exact hol)
          · exact (Hf.out.setCell (.inr (by simp)) _).alloc _
        case measure => simp [intOf]; omega
      · obtain rfl : k = n := by omega
        have hv' := Hv.out
        rw [List.take_of_length_le (by have := Hl.out; omega), List.take_of_length_le (by omega), List.take_of_length_le (by omega)] at hv'
        have hc0 := plus_end (by omega) hv' (val_lt HDa.out) (val_lt HDb.out) hn1 hn2
        subst hc0
        have Hv2 := Lib.hid hv'
        clear ho hf hD hv hl hv'
        go_wp2
        go_ret
        have hl := Hl.out
        subst hl
        exact ⟨_, _, l, rfl, Ho.out, HD.out, by have h := Hv2.out; first | exact h | (rw [Nat.mul_zero, Nat.add_zero] at h; exact h), HN3.out, Nat.le_refl _, Hf.out⟩
set_option maxHeartbeats 4000000 in
set_option maxRecDepth 100000 in
theorem minus_calls {w : World} {da db : List Nat} {va vb : Value} (ha : Reads w va da.length 1 (u32s da)) (hb : Reads w vb db.length 1 (u32s db)) (hDa : Dig 4294967296 da) (hDb : Dig 4294967296 db) (hla : da.length ≤ 100000) (hlb : db.length ≤ da.length) (hle : val 4294967296 db ≤ val 4294967296 da) :
    Calls Try.prog 68 #[va, vb] w (FreshPost w (val 4294967296 da - val 4294967296 db) da.length) := by
  have hdb := fun w1 (hf : Fr [] w w1) i => digit_calls (hb.fr hf) (by omega) i
  have Hdb := Lib.hid hdb
  obtain ⟨_, a, ac, rfl, haa⟩ := ha
  obtain ⟨_, b, bc, rfl, _⟩ := hb
  have Haa := Lib.hid haa
  have HDa := Lib.hid hDa
  have HDb := Lib.hid hDb
  have Hle := Lib.hid hle
  obtain ⟨n, hn⟩ : ∃ n, da.length = n := ⟨_, rfl⟩
  have Hn := Lib.hid hn
  rw [hn] at Haa hla hlb ⊢
  clear hdb hDa hDb haa hle hn
  go_enter Try.func68, Try.ntmps68
  go_wp2_with (refine wpList_make1 rfl (t := 39) (e := 71) (n := n) (z := .int .u32 0) (bytes := 4) rfl rfl rfl Try.underlying39 info_u32 rfl (by omega) (by unfold maxLen; omega) ?_)
  intro w1 ho1 hf1 hsz1
  have Ho1 := Lib.hid ho1
  have Hf1 := Lib.hid hf1
  clear ho1 hf1
  go_wp2_with fail
  go_loopw [6, 13] (fun xb xk wl => ∃ (k bo : Nat) (l : List Nat), xb = .int .u32 bo ∧ xk = .int .i64 k ∧ k ≤ n ∧ bo ≤ 1 ∧ l.length = n ∧ Dig 4294967296 l ∧ val 4294967296 (l.take k) + val 4294967296 (db.take k) = val 4294967296 (da.take k) + 4294967296 ^ k * bo ∧
      wl.ownsRow w.heap.size 71 1 (.slice (some ⟨w.heap.size, 0, none⟩) n n) n (u32s l) ∧ Fr [] w wl) (fun _ xk _ => n - (intOf xk).toNat)
  case atStart => exact ⟨0, 0, List.replicate n 0, rfl, rfl, by omega, by omega, List.length_replicate, Dig.replicate (by omega) n, by simp [val], by rw [u32s_zero]; exact Ho1.out, Hf1.out⟩
  case round =>
    obtain ⟨k, bo, l, rfl, rfl, hk, hbo, hl, hD, hv, ho, hf⟩ := hrel
    have hol := owns_lt ho rfl
    have Ho := Lib.hid ho
    have Hf := Lib.hid hf
    have HD := Lib.hid hD
    have Hv := Lib.hid hv
    have Hl := Lib.hid hl
    by_cases hkn : k < n
    · obtain ⟨g, off, rfl, hg, hc⟩ := Haa.out (by omega)
      have e1 := (hf.cell (p := ⟨g, off + k, none⟩) hg (by simp)).trans (hc k _ (u32s_get (by have := Hn.out; omega)))
      have hgr : g < wr.heap.size := by have := hf.size; omega
      have hcz := owns_cell ho rfl (u32s_get (l := l) (i := k) (by omega))
      have hz := owns_frozen ho rfl k
      have hxl := HDa.out.getD (by omega : 0 < 4294967296) k
      have hyl := HDb.out.getD (by omega : 0 < 4294967296) k
      have hst := diff_step (B := 4294967296) (P := 4294967296 ^ k) hv (sub_digit hxl hyl hbo)
      rw [← val_take_succ, ← val_take_succ, ← Nat.pow_succ] at hst
      have hdb := fun w2 (hf2 : Fr [] w w2) => Hdb.out w2 hf2 k
      have hsu := fun (w2 : World) => Sub32_calls (w := w2) hxl hyl hbo
      have hset := fun d => owns_set ho rfl (j := k) (by rw [u32s_length]; omega) (.int .u32 d)
      have hdl : (da.getD k 0 + 4294967296 - db.getD k 0 - bo) % 4294967296 < 4294967296 := Nat.mod_lt _ (by omega)
      have hbl := bor_le (da.getD k 0) (db.getD k 0) bo
      have Hset := Lib.hid hset
      have Hst := Lib.hid hst
      have HB := Lib.hid hdb
      have HC := Lib.hid hsu
      have Hdl := Lib.hid hdl
      have Hbl := Lib.hid hbl
      clear ho hf hD hv hl hst hdb hsu hset hxl hyl hc hdl hbl
      generalize (da.getD k 0 + 4294967296 - db.getD k 0 - bo) % 4294967296 = d at *
      generalize bor (da.getD k 0) (db.getD k 0) bo = b2 at *
      generalize da.getD k 0 = x at *
      generalize db.getD k 0 = y at *
      generalize l.getD k 0 = z at *
      go_wp2
      refine wp_region_segs [([0, 1, 2, 3, 4, 5, 6, 7, 8], [5]), ([9, 10, 11, 12, 13, 14, 15, 16], [])] (by kernel_rfl) (by kernel_rfl) ?_
      (simp only [wpSegs, pick, Array.getD_eq_getD_getElem?, List.getElem?_toArray, List.getElem?_cons_succ, List.getElem?_cons_zero, Option.getD_some])
      go_wp2_with fail
      refine (HB.out _ (by have := Hf.out; (repeat first | exact Fr.refl _ _ | assumption | apply Fr.n | apply Fr.d | apply Fr.a | refine Fr.s ?_ (.inr (by simp; try omega)) _))).mono ?_
      rintro e w2 ⟨rfl, rfl⟩
      go_wp2
      refine Mid.intro ⟨⟨again_cell (T := 71) rfl rfl rfl Try.underlying71 rfl e1 rfl, trivial⟩, ?_⟩
      go_wp2_with fail
      refine (HC.out _).mono ?_
      rintro e w2 ⟨rfl, rfl⟩
      go_wp2
      refine Mid.intro ⟨trivial, Strict.intro rfl ?_⟩
      go_wp2
      go_roundw
      case rel =>
        refine ⟨k + 1, b2, l.set k d, rfl, by go_num, by omega, Hbl.out, by rw [List.length_set]; exact Hl.out, HD.out.set Hdl.out, ?_, ?_, ?_⟩
        · rw [val_set_take (by have := Hl.out; omega)]; exact Hst.out
        · rw [u32s_set]
          exact Hset.out d
        · exact (Hf.out.setCell (.inr (by simp)) _).drew
      case measure => simp [intOf]; omega
    · obtain rfl : k = n := by omega
      have hv' := Hv.out
      rw [List.take_of_length_le (by have := Hl.out; omega), List.take_of_length_le (by omega), List.take_of_length_le (by have := Hn.out; omega)] at hv'
      have hvl := val_lt hD
      rw [hl] at hvl
      obtain ⟨hb0, hv2⟩ := minus_end hv' hvl Hle.out
      subst hb0
      have Hv2 := Lib.hid hv2
      clear ho hf hD hv hl hv' hvl hv2
      go_wp2
      go_ret
      have hl := Hl.out
      subst hl
      exact ⟨_, _, l, rfl, Ho.out, HD.out, Hv2.out, Nat.le_refl _, Nat.le_refl _, Hf.out⟩
end Go.Proofs.Ytjidldfnlejdhaa
end

section
/- Big integers: Add, Compare, Neg. -/
namespace Go.Proofs.Ytjidldfnlejdhaa
set_option linter.unusedVariables false
set_option linter.unusedSimpArgs false
open Go Go.RowKit Go.Proofs.Rg Go.Proofs.Hp Go.Proofs.Bn
set_option maxHeartbeats 8000000 in
set_option maxRecDepth 100000 in
theorem Add_calls {w : World} {na nb : Bool} {da db : List Nat} {va vb : Value} (ha : Reads w va da.length 1 (u32s da)) (hb : Reads w vb db.length 1 (u32s db)) (hDa : Dig 4294967296 da) (hDb : Dig 4294967296 db) (hla : da.length ≤ 10000) (hlb : db.length ≤ 10000) :
    Calls Try.prog 43 #[.agg #[.bool na, va], .agg #[.bool nb, vb]] w (BigPost w (w.heap.size ≤ ·) (addS na da nb db)) := by
  have hra := fun w1 (hf : Fr [] w w1) => Right_calls (neg := na) (ha.fr hf) (by omega)
  have hrb := fun w1 (hf : Fr [] w w1) => Right_calls (neg := nb) (hb.fr hf) (by omega)
  have Ha := Lib.hid ha
  have Hb := Lib.hid hb
  obtain ⟨_, a, ac, rfl, _⟩ := ha
  obtain ⟨_, b, bc, rfl, _⟩ := hb
  have Hra := Lib.hid hra
  have Hrb := Lib.hid hrb
  have HDa := Lib.hid hDa
  have HDb := Lib.hid hDb
  obtain ⟨r, hS⟩ : ∃ r, r = addS na da nb db := ⟨_, rfl⟩
  rw [← hS]
  unfold addS at hS
  clear hDa hDb hra hrb
  cases hR1 : RightB na da with
  | false =>
    rw [hR1] at hS
    simp only [Bool.false_and, if_true] at hS
    subst hS
    have Hra' := Lib.hid (fun w1 hf => hR1 ▸ Hra.out w1 hf)
    clear hR1
    go_enter Try.func43, Try.ntmps43
    go_wp2_with fail
    refine (Hra'.out _ (by (repeat first | exact Fr.refl _ _ | assumption | apply Fr.n | apply Fr.d | apply Fr.a | refine Fr.s ?_ (.inr (by simp; try omega)) _))).mono ?_
    rintro e w1 ⟨rfl, hf⟩
    have hc := (hf.block (w.heap.size + 1 + 1) (by simp) (by simp)).trans (show _ = some (.cells #[.bool false, .slice none 0 0] 41 (0, 0)) by (repeat first | rw [if_pos (by omega)] | rw [if_neg (by omega)] | rw [hp_drew] | rw [hp_drewN] | rw [hp_alloc_size] | rw [hp_setCell_size] | rw [hp_alloc] | rw [hp_setCell] | rw [oMS] | rw [upd_cells] | rw [lSZ] | rw [lSS] | rfl))
    have c0 := heap_eq_cell hc 0
    have c1 := heap_eq_cell hc 1
    have z0 := heap_eq_frozen hc 0
    have z1 := heap_eq_frozen hc 1
    have cl := lt_of_block hc
    have Hc := Lib.hid hc
    have Hf := Lib.hid (Fr.trans0 (by (repeat first | exact Fr.refl _ _ | assumption | apply Fr.n | apply Fr.d | apply Fr.a | refine Fr.s ?_ (.inr (by simp; try omega)) _) : Fr [] w _) hf)
    clear hf hc
    go_wp2
    (try simp only [Exit.inBlock, Exit.then])
    refine bodyPost_ret (big_result rfl (b := w.heap.size + 1 + 1) (x := .bool false) (y := .slice none 0 0) rfl ?_ rfl) rfl ⟨_, _, ⟨Nat.le_refl _, fun g hg => (by cases hg)⟩, rfl, reads_nil _, ?_⟩
    · have h := Hc.out
      (repeat first | rw [if_pos (by omega)] | rw [if_neg (by omega)] | rw [hp_drew] | rw [hp_drewN] | rw [hp_alloc_size] | rw [hp_setCell_size] | rw [hp_alloc] | rw [hp_setCell] | rw [oMS] | rw [upd_cells] | rw [lSZ] | rw [lSS] | rfl)
      rw [h]
      (repeat first | rw [if_pos (by omega)] | rw [if_neg (by omega)] | rw [hp_drew] | rw [hp_drewN] | rw [hp_alloc_size] | rw [hp_setCell_size] | rw [hp_alloc] | rw [hp_setCell] | rw [oMS] | rw [upd_cells] | rw [lSZ] | rw [lSS] | rfl)
    · exact (Hf.out.setCell (.inr (by simp; try omega)) _).setCell (.inr (by simp; try omega)) _
  | true =>
    have Hra' := Lib.hid (fun w1 hf => hR1 ▸ Hra.out w1 hf)
    obtain ⟨cA, lA, _⟩ := right_canon hR1
    have HcA := Lib.hid cA
    rw [hR1] at hS
    clear hR1 cA Hra
    cases hR2 : RightB nb db with
    | false =>
      rw [hR2] at hS
      simp only [Bool.and_false, if_true] at hS
      subst hS
      have Hrb' := Lib.hid (fun w1 hf => hR2 ▸ Hrb.out w1 hf)
      clear hR2
      go_enter Try.func43, Try.ntmps43
      go_wp2_with fail
      refine (Hra'.out _ (by (repeat first | exact Fr.refl _ _ | assumption | apply Fr.n | apply Fr.d | apply Fr.a | refine Fr.s ?_ (.inr (by simp; try omega)) _))).mono ?_
      rintro e w1 ⟨rfl, hf⟩
      have hb := (hf.block (w.heap.size + 1) (by simp) (by simp)).trans (show _ = some (.cells #[.bool nb, .slice b db.length bc] 41 (0, 0)) by (repeat first | rw [if_pos (by omega)] | rw [if_neg (by omega)] | rw [hp_drew] | rw [hp_drewN] | rw [hp_alloc_size] | rw [hp_setCell_size] | rw [hp_alloc] | rw [hp_setCell] | rw [oMS] | rw [upd_cells] | rw [lSZ] | rw [lSS] | rfl))
      have b0 := heap_eq_cell hb 0
      have b1 := heap_eq_cell hb 1
      have bl := lt_of_block hb
      have Hc1 := Lib.hid ((hf.block (w.heap.size + 1 + 1) (by simp) (by simp)).trans (show _ = some (.cells #[.bool false, .slice none 0 0] 41 (0, 0)) by (repeat first | rw [if_pos (by omega)] | rw [if_neg (by omega)] | rw [hp_drew] | rw [hp_drewN] | rw [hp_alloc_size] | rw [hp_setCell_size] | rw [hp_alloc] | rw [hp_setCell] | rw [oMS] | rw [upd_cells] | rw [lSZ] | rw [lSS] | rfl)))
      have Hf1 := Lib.hid (Fr.trans0 (by (repeat first | exact Fr.refl _ _ | assumption | apply Fr.n | apply Fr.d | apply Fr.a | refine Fr.s ?_ (.inr (by simp; try omega)) _) : Fr [] w _) hf)
      clear hf hb
      go_wp2_with fail
      refine (Hrb'.out _ Hf1.out).mono ?_
      rintro e w2 ⟨rfl, hf⟩
      have hc := (hf.block _ (lt_of_block Hc1.out) (by simp)).trans Hc1.out
      have c0 := heap_eq_cell hc 0
      have c1 := heap_eq_cell hc 1
      have z0 := heap_eq_frozen hc 0
      have z1 := heap_eq_frozen hc 1
      have cl := lt_of_block hc
      have Hc := Lib.hid hc
      have Hf := Lib.hid (Hf1.out.trans0 hf)
      clear hf hc b0 b1
      go_wp2
      (try simp only [Exit.inBlock, Exit.then])
      refine bodyPost_ret (big_result rfl (b := w.heap.size + 1 + 1) (x := .bool false) (y := .slice none 0 0) rfl ?_ rfl) rfl ⟨_, _, ⟨Nat.le_refl _, fun g hg => (by cases hg)⟩, rfl, reads_nil _, ?_⟩
      · have h := Hc.out
        (repeat first | rw [if_pos (by omega)] | rw [if_neg (by omega)] | rw [hp_drew] | rw [hp_drewN] | rw [hp_alloc_size] | rw [hp_setCell_size] | rw [hp_alloc] | rw [hp_setCell] | rw [oMS] | rw [upd_cells] | rw [lSZ] | rw [lSS] | rfl)
        rw [h]
        (repeat first | rw [if_pos (by omega)] | rw [if_neg (by omega)] | rw [hp_drew] | rw [hp_drewN] | rw [hp_alloc_size] | rw [hp_setCell_size] | rw [hp_alloc] | rw [hp_setCell] | rw [oMS] | rw [upd_cells] | rw [lSZ] | rw [lSS] | rfl)
      · exact (Hf.out.setCell (.inr (by simp; try omega)) _).setCell (.inr (by simp; try omega)) _
    | true =>
      have Hrb' := Lib.hid (fun w1 hf => hR2 ▸ Hrb.out w1 hf)
      obtain ⟨cB, lB, _⟩ := right_canon hR2
      have HcB := Lib.hid cB
      rw [hR2] at hS
      simp only [Bool.and_self, Bool.true_eq_false, if_false] at hS
      have HS := Lib.hid hS
      clear hR2 cB Hrb hS
      go_enter Try.func43, Try.ntmps43
      go_wp2_with fail
      refine (Hra'.out _ (by (repeat first | exact Fr.refl _ _ | assumption | apply Fr.n | apply Fr.d | apply Fr.a | refine Fr.s ?_ (.inr (by simp; try omega)) _))).mono ?_
      rintro e w1 ⟨rfl, hf⟩
      have hb := (hf.block (w.heap.size + 1) (by simp) (by simp)).trans (show _ = some (.cells #[.bool nb, .slice b db.length bc] 41 (0, 0)) by (repeat first | rw [if_pos (by omega)] | rw [if_neg (by omega)] | rw [hp_drew] | rw [hp_drewN] | rw [hp_alloc_size] | rw [hp_setCell_size] | rw [hp_alloc] | rw [hp_setCell] | rw [oMS] | rw [upd_cells] | rw [lSZ] | rw [lSS] | rfl))
      have b0 := heap_eq_cell hb 0
      have b1 := heap_eq_cell hb 1
      have bl := lt_of_block hb
      have Hb1 := Lib.hid hb
      have Ha1 := Lib.hid ((hf.block w.heap.size (by simp; omega) (by simp)).trans (show _ = some (.cells #[.bool na, .slice a da.length ac] 41 (0, 0)) by (repeat first | rw [if_pos (by omega)] | rw [if_neg (by omega)] | rw [hp_drew] | rw [hp_drewN] | rw [hp_alloc_size] | rw [hp_setCell_size] | rw [hp_alloc] | rw [hp_setCell] | rw [oMS] | rw [upd_cells] | rw [lSZ] | rw [lSS] | rfl)))
      have Hc1 := Lib.hid ((hf.block (w.heap.size + 1 + 1) (by simp) (by simp)).trans (show _ = some (.cells #[.bool false, .slice none 0 0] 41 (0, 0)) by (repeat first | rw [if_pos (by omega)] | rw [if_neg (by omega)] | rw [hp_drew] | rw [hp_drewN] | rw [hp_alloc_size] | rw [hp_setCell_size] | rw [hp_alloc] | rw [hp_setCell] | rw [oMS] | rw [upd_cells] | rw [lSZ] | rw [lSS] | rfl)))
      have Hf1 := Lib.hid (Fr.trans0 (by (repeat first | exact Fr.refl _ _ | assumption | apply Fr.n | apply Fr.d | apply Fr.a | refine Fr.s ?_ (.inr (by simp; try omega)) _) : Fr [] w _) hf)
      clear hf hb
      go_wp2_with fail
      refine (Hrb'.out _ Hf1.out).mono ?_
      rintro e w2 ⟨rfl, hf⟩
      have hc2 := (hf.block _ (lt_of_block Hc1.out) (by simp)).trans Hc1.out
      have ha2 := (hf.block _ (lt_of_block Ha1.out) (by simp)).trans Ha1.out
      have hb2 := (hf.block _ (lt_of_block Hb1.out) (by simp)).trans Hb1.out
      clear b0 b1 bl
      have a0 := heap_eq_cell ha2 0
      have a1 := heap_eq_cell ha2 1
      have al := lt_of_block ha2
      have b0 := heap_eq_cell hb2 0
      have b1 := heap_eq_cell hb2 1
      have bl := lt_of_block hb2
      have Hc2 := Lib.hid hc2
      have Ha2 := Lib.hid ha2
      have Hb2 := Lib.hid hb2
      have Hf2 := Lib.hid (Hf1.out.trans0 hf)
      clear hf hc2 ha2 hb2
      by_cases hn : na = nb
      · subst hn
        have hS := HS.out
        rw [if_pos rfl] at hS
        have HS1 := Lib.hid hS
        clear hS HS
        go_wp2
        refine wp_region_segs [([0, 1, 2, 3, 4, 5, 6], [1]), ([7, 8, 9, 10, 11], [])] (by kernel_rfl) (by kernel_rfl) ?_
        (simp only [wpSegs, pick, Array.getD_eq_getD_getElem?, List.getElem?_toArray, List.getElem?_cons_succ, List.getElem?_cons_zero, Option.getD_some])
        go_wp2_with fail
        refine (plus_calls (Ha.out.fr (by have := Hf2.out; (repeat first | exact Fr.refl _ _ | assumption | apply Fr.n | apply Fr.d | apply Fr.a | refine Fr.s ?_ (.inr (by simp; try omega)) _))) (Hb.out.fr (by have := Hf2.out; (repeat first | exact Fr.refl _ _ | assumption | apply Fr.n | apply Fr.d | apply Fr.a | refine Fr.s ?_ (.inr (by simp; try omega)) _))) HDa.out HDb.out (by omega) (by omega)).mono ?_
        rintro e w3 ⟨pa, pc, ds, rfl, ho, hD, hV, hl, hlc, hf0⟩
        have hf : Fr [] w2 w3 := Fr.trans0 (by (repeat first | exact Fr.refl _ _ | assumption | apply Fr.n | apply Fr.d | apply Fr.a | refine Fr.s ?_ (.inr (by simp; try omega)) _)) hf0
        have ha3 := (hf.block _ al (by simp)).trans Ha2.out
        have a0' := heap_eq_cell ha3 0
        have a1' := heap_eq_cell ha3 1
        have al' := lt_of_block ha3
        have Ho3 := Lib.hid ho
        have HD3 := Lib.hid hD
        have HV3 := Lib.hid hV
        have Hl3 := Lib.hid hl
        have Hlc := Lib.hid hlc
        have Hc3 := Lib.hid ((hf.block _ (lt_of_block Hc2.out) (by simp)).trans Hc2.out)
        have Hf3 := Lib.hid (Hf2.out.trans0 hf)
        clear ho hD hV hl hlc hf hf0 ha3 a0 a1 al b0 b1 bl
        go_wp2
        refine Mid.intro ⟨⟨again_cell (T := 4) rfl rfl rfl Try.underlying4 rfl a0' rfl, trivial⟩, ?_⟩
        go_wp2_with fail
        refine (made_calls (neg := na) (Reads.of_owns Ho3.out) HD3.out (by have := Hl3.out; omega) Hlc.out (A := fun g => w2.heap.size ≤ g) (fun g hg => owns_ge Ho3.out hg)).mono ?_
        rintro e w4 ⟨ra, rc, hlo, rfl, hr, hf⟩
        rw [HV3.out, ← HS1.out] at hlo hr
        rw [HV3.out, ← HS1.out]
        have hc4 := (hf.block _ (lt_of_block Hc3.out) (by simp)).trans Hc3.out
        have c0 := heap_eq_cell hc4 0
        have c1 := heap_eq_cell hc4 1
        have z0 := heap_eq_frozen hc4 0
        have z1 := heap_eq_frozen hc4 1
        have cl := lt_of_block hc4
        have Hc := Lib.hid hc4
        have Hlo := Lib.hid hlo
        have Hr := Lib.hid hr
        have Hf := Lib.hid (Hf3.out.trans0 hf)
        have hcl2 : w.heap.size + 1 + 1 < w2.heap.size := lt_of_block Hc2.out
        have Hcl2 := Lib.hid hcl2
        clear hlo hr hf hc4 a0' a1' al' hcl2
        obtain ⟨r1, r2, r3⟩ := r
        go_wp2
        refine Mid.intro ⟨trivial, Strict.intro rfl ?_⟩
        go_wp2
        (try simp only [Exit.inBlock, Exit.then])
        refine bodyPost_ret (big_result rfl (b := w.heap.size + 1 + 1) (x := .bool r1) (y := .slice ra r2.length rc) rfl ?_ rfl) rfl ⟨_, _, ⟨Hlo.out.1, fun g hg => (by have := Hlo.out.2 g hg; have := Hcl2.out; omega)⟩, rfl, ?_, ?_⟩
        · have h := Hc.out
          (repeat first | rw [if_pos (by omega)] | rw [if_neg (by omega)] | rw [hp_drew] | rw [hp_drewN] | rw [hp_alloc_size] | rw [hp_setCell_size] | rw [hp_alloc] | rw [hp_setCell] | rw [oMS] | rw [upd_cells] | rw [lSZ] | rw [lSS] | rfl)
          rw [h]
          (repeat first | rw [if_pos (by omega)] | rw [if_neg (by omega)] | rw [hp_drew] | rw [hp_drewN] | rw [hp_alloc_size] | rw [hp_setCell_size] | rw [hp_alloc] | rw [hp_setCell] | rw [oMS] | rw [upd_cells] | rw [lSZ] | rw [lSS] | rfl)
        · refine Hr.out.keep fun x hx hl => ?_
          have := Hlo.out.2 x hx
          have hcl := Hcl2.out
          rw [setCell_else _ _ _ (by simp; omega), setCell_else _ _ _ (by simp; omega)]
        · exact (Hf.out.setCell (.inr (by simp; try omega)) _).setCell (.inr (by simp; try omega)) _
      · have hS := HS.out
        rw [if_neg hn] at hS
        have hnb : (na != nb) = true := by simpa using hn
        have hne : (na == nb) = false := by simpa using hn
        have HN := Lib.hid hn
        have hag := fun w3 (hf : Fr [] w w3) => against_calls (Ha.out.fr hf) (Hb.out.fr hf) HDa.out HDb.out HcA.out HcB.out (by omega) (by omega)
        clear hn HS
        by_cases hv : val 4294967296 da < val 4294967296 db
        · rw [if_pos hv] at hS
          have hc : cmpN (val 4294967296 da) (val 4294967296 db) = -1 := by unfold cmpN; rw [if_pos hv]
          rw [hc] at hag
          have hlen : da.length ≤ db.length := by
            rcases Nat.lt_or_ge db.length da.length with h | h
            · have := val_lt_len (by omega) HDb.out HDa.out HcA.out h; omega
            · exact h
          have HS1 := Lib.hid hS
          have Hlen := Lib.hid hlen
          have Hval := Lib.hid (Nat.le_of_lt hv)
          have Hag := Lib.hid hag
          clear hS hlen hc hag hv
          go_wp2_with fail
          refine (Hag.out _ Hf2.out).mono ?_
          rintro e w3 ⟨rfl, hd⟩
          have hf := hd.fr []
          have H23 := Lib.hid hf.size
          have ha3 := (hf.block _ al (by simp)).trans Ha2.out
          have hb3 := (hf.block _ bl (by simp)).trans Hb2.out
          have Hc3' := Lib.hid ((hf.block _ (lt_of_block Hc2.out) (by simp)).trans Hc2.out)
          have Hf3' := Lib.hid (Hf2.out.trans0 hf)
          clear a0 a1 al b0 b1 bl
          have a0 := heap_eq_cell ha3 0
          have a1 := heap_eq_cell ha3 1
          have al := lt_of_block ha3
          have b0 := heap_eq_cell hb3 0
          have b1 := heap_eq_cell hb3 1
          have bl := lt_of_block hb3
          have az0 := heap_eq_frozen ha3 0
          have az1 := heap_eq_frozen ha3 1
          have bz0 := heap_eq_frozen hb3 0
          have bz1 := heap_eq_frozen hb3 1
          have Ha3 := Lib.hid ha3
          have Hb3 := Lib.hid hb3
          clear hd hf ha3 hb3
          go_wp2
          refine abs_world (fun W => W.heap[w.heap.size]? = some (.cells #[.bool nb, .slice b db.length bc] 41 (0, 0)) ∧ W.heap[w.heap.size + 1]? = some (.cells #[.bool na, .slice a da.length ac] 41 (0, 0)) ∧
            W.heap[w.heap.size + 1 + 1]? = some (.cells #[.bool false, .slice none 0 0] 41 (0, 0)) ∧ Fr [] w W ∧ w2.heap.size ≤ W.heap.size) ?_ ?_
          · have ha3 := Ha3.out
            have hb3 := Hb3.out
            have hc3 := Hc3'.out
            refine ⟨by (repeat first | rw [if_pos (by omega)] | rw [if_neg (by omega)] | rw [hp_drew] | rw [hp_drewN] | rw [hp_alloc_size] | rw [hp_setCell_size] | rw [hp_alloc] | rw [hp_setCell] | rw [oMS] | rw [upd_cells] | rw [lSZ] | rw [lSS] | rfl); rw [ha3]; (repeat first | rw [if_pos (by omega)] | rw [if_neg (by omega)] | rw [hp_drew] | rw [hp_drewN] | rw [hp_alloc_size] | rw [hp_setCell_size] | rw [hp_alloc] | rw [hp_setCell] | rw [oMS] | rw [upd_cells] | rw [lSZ] | rw [lSS] | rfl), by (repeat first | rw [if_pos (by omega)] | rw [if_neg (by omega)] | rw [hp_drew] | rw [hp_drewN] | rw [hp_alloc_size] | rw [hp_setCell_size] | rw [hp_alloc] | rw [hp_setCell] | rw [oMS] | rw [upd_cells] | rw [lSZ] | rw [lSS] | rfl); rw [hb3]; (repeat first | rw [if_pos (by omega)] | rw [if_neg (by omega)] | rw [hp_drew] | rw [hp_drewN] | rw [hp_alloc_size] | rw [hp_setCell_size] | rw [hp_alloc] | rw [hp_setCell] | rw [oMS] | rw [upd_cells] | rw [lSZ] | rw [lSS] | rfl), by (repeat first | rw [if_pos (by omega)] | rw [if_neg (by omega)] | rw [hp_drew] | rw [hp_drewN] | rw [hp_alloc_size] | rw [hp_setCell_size] | rw [hp_alloc] | rw [hp_setCell] | rw [oMS] | rw [upd_cells] | rw [lSZ] | rw [lSS] | rfl); exact hc3, ?_, by simp only [hp_setCell_size]; exact H23.out⟩
            exact (((Hf3'.out.setCell (.inr (by simp; try omega)) _).setCell (.inr (by simp; try omega)) _).setCell (.inr (by simp; try omega)) _).setCell (.inr (by simp; try omega)) _
          clear a0 a1 al b0 b1 bl az0 az1 bz0 bz1
          rintro W5 ⟨ha5, hb5, hc5, hf5, h25⟩
          have a0 := heap_eq_cell ha5 0
          have a1 := heap_eq_cell ha5 1
          have al := lt_of_block ha5
          have b0 := heap_eq_cell hb5 0
          have b1 := heap_eq_cell hb5 1
          have bl := lt_of_block hb5
          have Ha5 := Lib.hid ha5
          have Hc5 := Lib.hid hc5
          have Hf5 := Lib.hid hf5
          have H25 := Lib.hid h25
          clear ha5 hb5 hc5 hf5 h25
          refine wp_region_segs [([0, 1, 2, 3, 4, 5, 6], [1]), ([7, 8, 9, 10, 11], [])] (by kernel_rfl) (by kernel_rfl) ?_
          (simp only [wpSegs, pick, Array.getD_eq_getD_getElem?, List.getElem?_toArray, List.getElem?_cons_succ, List.getElem?_cons_zero, Option.getD_some])
          go_wp2_with fail
          refine (minus_calls (Hb.out.fr ?q1) (Ha.out.fr ?q2) HDb.out HDa.out (by omega) Hlen.out Hval.out).mono ?_
          case q1 => have := Hf5.out; (repeat first | exact Fr.refl _ _ | assumption | apply Fr.n | apply Fr.d | apply Fr.a | refine Fr.s ?_ (.inr (by simp; try omega)) _)
          case q2 => have := Hf5.out; (repeat first | exact Fr.refl _ _ | assumption | apply Fr.n | apply Fr.d | apply Fr.a | refine Fr.s ?_ (.inr (by simp; try omega)) _)
          rintro e w6 ⟨pa, pc, ds, rfl, ho, hD, hV, hl, hlc, hf0⟩
          have hf : Fr [] W5 w6 := Fr.trans0 (by (repeat first | exact Fr.refl _ _ | assumption | apply Fr.n | apply Fr.d | apply Fr.a | refine Fr.s ?_ (.inr (by simp; try omega)) _)) hf0
          have ha3 := (hf.block _ al (by simp)).trans Ha5.out
          have a0' := heap_eq_cell ha3 0
          have a1' := heap_eq_cell ha3 1
          have al' := lt_of_block ha3
          have Ho3 := Lib.hid ho
          have HD3 := Lib.hid hD
          have HV3 := Lib.hid hV
          have Hl3 := Lib.hid hl
          have Hlc := Lib.hid hlc
          have Hc3 := Lib.hid ((hf.block _ (lt_of_block Hc5.out) (by simp)).trans Hc5.out)
          have Hf3 := Lib.hid (Hf5.out.trans0 hf)
          clear ho hD hV hl hlc hf hf0 ha3 a0 a1 al b0 b1 bl
          go_wp2
          refine Mid.intro ⟨⟨again_cell (T := 4) rfl rfl rfl Try.underlying4 rfl a0' rfl, trivial⟩, ?_⟩
          go_wp2_with fail
          refine (made_calls (neg := nb) (Reads.of_owns Ho3.out) HD3.out (by have := Hl3.out; omega) Hlc.out (A := fun g => w2.heap.size ≤ g) (fun g hg => by have h1 : W5.heap.size ≤ g := owns_ge Ho3.out hg; have := H25.out; omega)).mono ?_
          rintro e w7 ⟨ra, rc, hlo, rfl, hr, hf⟩
          rw [HV3.out, ← HS1.out] at hlo hr
          rw [HV3.out, ← HS1.out]
          have hc4 := (hf.block _ (lt_of_block Hc3.out) (by simp)).trans Hc3.out
          have c0 := heap_eq_cell hc4 0
          have c1 := heap_eq_cell hc4 1
          have z0 := heap_eq_frozen hc4 0
          have z1 := heap_eq_frozen hc4 1
          have cl := lt_of_block hc4
          have Hc := Lib.hid hc4
          have Hlo := Lib.hid hlo
          have Hr := Lib.hid hr
          have Hf := Lib.hid (Hf3.out.trans0 hf)
          have hcl2 : w.heap.size + 1 + 1 < w2.heap.size := lt_of_block Hc2.out
          have Hcl2 := Lib.hid hcl2
          clear hlo hr hf hc4 a0' a1' al' hcl2
          obtain ⟨r1, r2, r3⟩ := r
          go_wp2
          refine Mid.intro ⟨trivial, Strict.intro rfl ?_⟩
          go_wp2
          (try simp only [Exit.inBlock, Exit.then])
          refine bodyPost_ret (big_result rfl (b := w.heap.size + 1 + 1) (x := .bool r1) (y := .slice ra r2.length rc) rfl ?_ rfl) rfl ⟨_, _, ⟨Hlo.out.1, fun g hg => (by have := Hlo.out.2 g hg; have := Hcl2.out; omega)⟩, rfl, ?_, ?_⟩
          · have h := Hc.out
            (repeat first | rw [if_pos (by omega)] | rw [if_neg (by omega)] | rw [hp_drew] | rw [hp_drewN] | rw [hp_alloc_size] | rw [hp_setCell_size] | rw [hp_alloc] | rw [hp_setCell] | rw [oMS] | rw [upd_cells] | rw [lSZ] | rw [lSS] | rfl)
            rw [h]
            (repeat first | rw [if_pos (by omega)] | rw [if_neg (by omega)] | rw [hp_drew] | rw [hp_drewN] | rw [hp_alloc_size] | rw [hp_setCell_size] | rw [hp_alloc] | rw [hp_setCell] | rw [oMS] | rw [upd_cells] | rw [lSZ] | rw [lSS] | rfl)
          · refine Hr.out.keep fun x hx hl => ?_
            have := Hlo.out.2 x hx
            have hcl := Hcl2.out
            rw [setCell_else _ _ _ (by simp; omega), setCell_else _ _ _ (by simp; omega)]
          · exact (Hf.out.setCell (.inr (by simp; try omega)) _).setCell (.inr (by simp; try omega)) _
        · rw [if_neg hv] at hS
          have hc : 0 ≤ cmpN (val 4294967296 da) (val 4294967296 db) := by unfold cmpN; rw [if_neg hv]; split <;> omega
          have hlen : db.length ≤ da.length := by
            rcases Nat.lt_or_ge da.length db.length with h | h
            · have := val_lt_len (by omega) HDa.out HDb.out HcB.out h; omega
            · exact h
          obtain ⟨q, hq⟩ : ∃ q, cmpN (val 4294967296 da) (val 4294967296 db) = q := ⟨_, rfl⟩
          rw [hq] at hag hc
          have HS1 := Lib.hid hS
          have Hlen := Lib.hid hlen
          have Hval := Lib.hid (Nat.le_of_not_lt hv)
          have Hag := Lib.hid hag
          have hqd : decide (q < 0) = false := by simp; omega
          clear hS hlen hag hv hq
          go_wp2_with fail
          refine (Hag.out _ Hf2.out).mono ?_
          rintro e W5 ⟨rfl, hd⟩
          have hf := hd.fr []
          have H25 := Lib.hid hf.size
          have ha3 := (hf.block _ al (by simp)).trans Ha2.out
          have hb3 := (hf.block _ bl (by simp)).trans Hb2.out
          have Hc5 := Lib.hid ((hf.block _ (lt_of_block Hc2.out) (by simp)).trans Hc2.out)
          have Hf5 := Lib.hid (Hf2.out.trans0 hf)
          clear a0 a1 al b0 b1 bl
          have a0 := heap_eq_cell ha3 0
          have a1 := heap_eq_cell ha3 1
          have al := lt_of_block ha3
          have b0 := heap_eq_cell hb3 0
          have b1 := heap_eq_cell hb3 1
          have bl := lt_of_block hb3
          have Ha5 := Lib.hid ha3
          clear hd hf ha3 hb3
          go_wp2
          refine wp_region_segs [([0, 1, 2, 3, 4, 5, 6], [1]), ([7, 8, 9, 10, 11], [])] (by kernel_rfl) (by kernel_rfl) ?_
          (simp only [wpSegs, pick, Array.getD_eq_getD_getElem?, List.getElem?_toArray, List.getElem?_cons_succ, List.getElem?_cons_zero, Option.getD_some])
          go_wp2_with fail
          refine (minus_calls (Ha.out.fr ?q1) (Hb.out.fr ?q2) HDa.out HDb.out (by omega) Hlen.out Hval.out).mono ?_
          case q1 => have := Hf5.out; (repeat first | exact Fr.refl _ _ | assumption | apply Fr.n | apply Fr.d | apply Fr.a | refine Fr.s ?_ (.inr (by simp; try omega)) _)
          case q2 => have := Hf5.out; (repeat first | exact Fr.refl _ _ | assumption | apply Fr.n | apply Fr.d | apply Fr.a | refine Fr.s ?_ (.inr (by simp; try omega)) _)
          rintro e w6 ⟨pa, pc, ds, rfl, ho, hD, hV, hl, hlc, hf0⟩
          have hf : Fr [] W5 w6 := Fr.trans0 (by (repeat first | exact Fr.refl _ _ | assumption | apply Fr.n | apply Fr.d | apply Fr.a | refine Fr.s ?_ (.inr (by simp; try omega)) _)) hf0
          have ha3 := (hf.block _ al (by simp)).trans Ha5.out
          have a0' := heap_eq_cell ha3 0
          have a1' := heap_eq_cell ha3 1
          have al' := lt_of_block ha3
          have Ho3 := Lib.hid ho
          have HD3 := Lib.hid hD
          have HV3 := Lib.hid hV
          have Hl3 := Lib.hid hl
          have Hlc := Lib.hid hlc
          have Hc3 := Lib.hid ((hf.block _ (lt_of_block Hc5.out) (by simp)).trans Hc5.out)
          have Hf3 := Lib.hid (Hf5.out.trans0 hf)
          clear ho hD hV hl hlc hf hf0 ha3 a0 a1 al b0 b1 bl
          go_wp2
          refine Mid.intro ⟨⟨again_cell (T := 4) rfl rfl rfl Try.underlying4 rfl a0' rfl, trivial⟩, ?_⟩
          go_wp2_with fail
          refine (made_calls (neg := na) (Reads.of_owns Ho3.out) HD3.out (by have := Hl3.out; omega) Hlc.out (A := fun g => w2.heap.size ≤ g) (fun g hg => by have h1 : W5.heap.size ≤ g := owns_ge Ho3.out hg; have := H25.out; omega)).mono ?_
          rintro e w7 ⟨ra, rc, hlo, rfl, hr, hf⟩
          rw [HV3.out, ← HS1.out] at hlo hr
          rw [HV3.out, ← HS1.out]
          have hc4 := (hf.block _ (lt_of_block Hc3.out) (by simp)).trans Hc3.out
          have c0 := heap_eq_cell hc4 0
          have c1 := heap_eq_cell hc4 1
          have z0 := heap_eq_frozen hc4 0
          have z1 := heap_eq_frozen hc4 1
          have cl := lt_of_block hc4
          have Hc := Lib.hid hc4
          have Hlo := Lib.hid hlo
          have Hr := Lib.hid hr
          have Hf := Lib.hid (Hf3.out.trans0 hf)
          have hcl2 : w.heap.size + 1 + 1 < w2.heap.size := lt_of_block Hc2.out
          have Hcl2 := Lib.hid hcl2
          clear hlo hr hf hc4 a0' a1' al' hcl2
          obtain ⟨r1, r2, r3⟩ := r
          go_wp2
          refine Mid.intro ⟨trivial, Strict.intro rfl ?_⟩
          go_wp2
          (try simp only [Exit.inBlock, Exit.then])
          refine bodyPost_ret (big_result rfl (b := w.heap.size + 1 + 1) (x := .bool r1) (y := .slice ra r2.length rc) rfl ?_ rfl) rfl ⟨_, _, ⟨Hlo.out.1, fun g hg => (by have := Hlo.out.2 g hg; have := Hcl2.out; omega)⟩, rfl, ?_, ?_⟩
          · have h := Hc.out
            (repeat first | rw [if_pos (by omega)] | rw [if_neg (by omega)] | rw [hp_drew] | rw [hp_drewN] | rw [hp_alloc_size] | rw [hp_setCell_size] | rw [hp_alloc] | rw [hp_setCell] | rw [oMS] | rw [upd_cells] | rw [lSZ] | rw [lSS] | rfl)
            rw [h]
            (repeat first | rw [if_pos (by omega)] | rw [if_neg (by omega)] | rw [hp_drew] | rw [hp_drewN] | rw [hp_alloc_size] | rw [hp_setCell_size] | rw [hp_alloc] | rw [hp_setCell] | rw [oMS] | rw [upd_cells] | rw [lSZ] | rw [lSS] | rfl)
          · refine Hr.out.keep fun x hx hl => ?_
            have := Hlo.out.2 x hx
            have hcl := Hcl2.out
            rw [setCell_else _ _ _ (by simp; omega), setCell_else _ _ _ (by simp; omega)]
          · exact (Hf.out.setCell (.inr (by simp; try omega)) _).setCell (.inr (by simp; try omega)) _
end Go.Proofs.Ytjidldfnlejdhaa
end

section
/- Big integers: From. -/
namespace Go.Proofs.Ytjidldfnlejdhaa
set_option linter.unusedVariables false
set_option linter.unusedSimpArgs false
open Go Go.RowKit Go.Proofs.Rg Go.Proofs.Hp Go.Proofs.Bn
set_option maxHeartbeats 4000000 in
set_option maxRecDepth 100000 in
theorem From_calls {w : World} {n : Int} (h1 : -9223372036854775808 ≤ n) (h2 : n < 9223372036854775808) :
    Calls Try.prog 37 #[.int .i64 n] w (BigPost1 w (w.heap.size ≤ ·) (fromS n)) := by
  have hsz := fun w1 => size_calls (w := w1) h1 h2
  have hb : n.natAbs < 18446744073709551616 := by omega
  unfold fromS
  obtain ⟨neg, hneg⟩ : ∃ neg, decide (n < 0) = neg := ⟨_, rfl⟩
  rw [hneg]
  generalize n.natAbs = v at *
  obtain ⟨r, hrr⟩ : ∃ r, mkN neg v = r := ⟨_, rfl⟩
  rw [hrr]
  have HRR := Lib.hid hrr
  clear hrr
  have Hsz := Lib.hid hsz
  have hv : val 4294967296 [v % 4294967296, v / 4294967296 % 4294967296] = v := by simp only [val]; omega
  have hdd : Dig 4294967296 [v % 4294967296, v / 4294967296 % 4294967296] := fun x hx => by simp at hx; omega
  have Hv := Lib.hid hv
  have Hdd := Lib.hid hdd
  have Hb := Lib.hid (And.intro h1 (And.intro h2 hb))
  clear hsz hv hdd h1 h2 hb
  go_enter Try.func37, Try.ntmps37
  go_wp2_with fail
  refine (Hsz.out _).mono ?_
  rintro e w1 ⟨rfl, rfl⟩
  go_wp2_with fail
  refine (made_calls (ds := [v % 4294967296, v / 4294967296 % 4294967296]) (A := fun g => w.heap.size + 1 ≤ g) (reads_blk (cs := u32s [v % 4294967296, v / 4294967296 % 4294967296]) (by (repeat first | rw [if_pos (by omega)] | rw [if_neg (by omega)] | rw [hp_drew] | rw [hp_drewN] | rw [hp_alloc_size] | rw [hp_setCell_size] | rw [hp_alloc] | rw [hp_setCell] | rw [oMS] | rw [upd_cells] | rw [lSZ] | rw [lSS] | rfl)) rfl) Hdd.out (by simp) (by simp) (fun g hg => by simp [Value.ownBlock] at hg; omega)).mono ?_
  rintro e w2 ⟨ra, rc, hlo, rfl, hr, hf⟩
  rw [Hv.out, HRR.out] at hlo hr
  rw [Hv.out, HRR.out]
  have hc := (hf.block w.heap.size (by simp; omega) (by simp)).trans (show _ = some (.cells #[.bool false, .slice none 0 0] 41 (0, 0)) by (repeat first | rw [if_pos (by omega)] | rw [if_neg (by omega)] | rw [hp_drew] | rw [hp_drewN] | rw [hp_alloc_size] | rw [hp_setCell_size] | rw [hp_alloc] | rw [hp_setCell] | rw [oMS] | rw [upd_cells] | rw [lSZ] | rw [lSS] | rfl))
  have c0 := heap_eq_cell hc 0
  have c1 := heap_eq_cell hc 1
  have z0 := heap_eq_frozen hc 0
  have z1 := heap_eq_frozen hc 1
  have cl := lt_of_block hc
  have Hc := Lib.hid hc
  have Hlo := Lib.hid hlo
  have Hr := Lib.hid hr
  have Hf := Lib.hid (Fr.trans0 (by (repeat first | exact Fr.refl _ _ | assumption | apply Fr.n | apply Fr.d | apply Fr.a | refine Fr.s ?_ (.inr (by simp; try omega)) _) : Fr [] w _) hf)
  clear hlo hr hf hc
  obtain ⟨r1, r2, r3⟩ := r
  go_wp2
  (try simp only [Exit.inBlock, Exit.then])
  refine bodyPost_ret (big_result1 rfl (b := w.heap.size) (x := .bool r1) (y := .slice ra r2.length rc) rfl ?_) rfl ⟨_, _, ⟨Hlo.out.1, fun g hg => (by have h := Hlo.out.2 g hg; omega)⟩, rfl, ?_, ?_⟩
  · have h := Hc.out
    (repeat first | rw [if_pos (by omega)] | rw [if_neg (by omega)] | rw [hp_drew] | rw [hp_drewN] | rw [hp_alloc_size] | rw [hp_setCell_size] | rw [hp_alloc] | rw [hp_setCell] | rw [oMS] | rw [upd_cells] | rw [lSZ] | rw [lSS] | rfl)
    first | exact h | (rw [h]; (repeat first | rw [if_pos (by omega)] | rw [if_neg (by omega)] | rw [hp_drew] | rw [hp_drewN] | rw [hp_alloc_size] | rw [hp_setCell_size] | rw [hp_alloc] | rw [hp_setCell] | rw [oMS] | rw [upd_cells] | rw [lSZ] | rw [lSS] | rfl))
  · refine Hr.out.keep fun x hx hl => ?_
    have h1 := Hlo.out.2 x hx
    rw [heap_alloc_else _ _ _ (by simp only [hp_setCell_size]; exact hl), setCell_else _ _ _ (by simp; omega), setCell_else _ _ _ (by simp; omega)]
  · repeat (first | exact Hf.out | refine Fr.alloc ?_ _ | refine Fr.setCell ?_ (.inr (by first | (simp; done) | (simp; omega))) _)
end Go.Proofs.Ytjidldfnlejdhaa
end
