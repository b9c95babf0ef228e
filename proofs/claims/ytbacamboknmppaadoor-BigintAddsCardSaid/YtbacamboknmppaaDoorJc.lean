/- Big integers: plus, minus. -/
import Derived.Test.YtbacamboknmppaaDoorJb
namespace Go.Proofs.Bn
set_option linter.unusedVariables false
set_option linter.unusedSimpArgs false
theorem val_set_take {B : Nat} {l : List Nat} {k v : Nat} (h : k < l.length) : val B ((l.set k v).take (k + 1)) = val B (l.take k) + B ^ k * v := by
  rw [val_take_succ, List.take_set_of_le (Nat.le_refl _), List.getD_eq_getElem?_getD, List.getElem?_set_self h]; rfl
theorem plus_end {B vl va vb n c la lb : Nat} (hB : 2 ≤ B) (h : vl + B ^ n * c = va + vb) (ha : va < B ^ la) (hb : vb < B ^ lb) (hla : la + 1 ≤ n) (hlb : lb + 1 ≤ n) : c = 0 := by
  rcases Nat.eq_zero_or_pos c with h0 | h0
  · exact h0
  · exfalso
    have h1 : B ^ la ≤ B ^ (n - 1) := Nat.pow_le_pow_right (by omega) (by omega)
    have h2 : B ^ lb ≤ B ^ (n - 1) := Nat.pow_le_pow_right (by omega) (by omega)
    have h3 : B ^ n = B ^ (n - 1) * B := by rw [← Nat.pow_succ]; congr 1; omega
    have h4 : B ^ (n - 1) * 2 ≤ B ^ n := by rw [h3]; exact Nat.mul_le_mul_left _ hB
    have h5 : B ^ n * 1 ≤ B ^ n * c := Nat.mul_le_mul_left _ h0
    omega
theorem minus_end {B vl va vb n b : Nat} (h : vl + vb = va + B ^ n * b) (hl : vl < B ^ n) (hba : vb ≤ va) : b = 0 ∧ vl = va - vb := by
  rcases Nat.eq_zero_or_pos b with h0 | h0
  · subst h0; simp at h; omega
  · exfalso
    have h5 : B ^ n * 1 ≤ B ^ n * b := Nat.mul_le_mul_left _ h0
    omega
theorem sub_digit {x y b : Nat} (hx : x < 4294967296) (hy : y < 4294967296) (hb : b ≤ 1) : (x + 4294967296 - y - b) % 4294967296 + y + b = x + 4294967296 * bor x y b := by
  unfold bor; split <;> omega
end Go.Proofs.Bn
namespace Go.Proofs.YtbacamboknmppaaDoor
open Go Go.RowKit Go.Proofs.Rg Go.Proofs.Hp Go.Proofs.Bn
set_option linter.unusedVariables false
theorem u32s_set (l : List Nat) (i d : Nat) : u32s (l.set i d) = (u32s l).set i (.int .u32 (d : Nat)) := by unfold u32s; rw [List.map_set]
theorem u32s_zero (n : Nat) : u32s (List.replicate n 0) = List.replicate n (.int .u32 0) := by simp [u32s]
/-- fresh digits with a value -/
def FreshPost (w : World) (V n : Nat) (e : Ending) (w' : World) : Prop :=
  ∃ a c ds, e = .returned (.slice a ds.length c) ∧ w'.ownsRow w.heap.size 45 1 (.slice a ds.length c) ds.length (u32s ds) ∧ Dig 4294967296 ds ∧ val 4294967296 ds = V ∧ ds.length ≤ n ∧ ds.length ≤ c ∧ Fr [] w w'
set_option maxHeartbeats 4000000 in
set_option maxRecDepth 100000 in
theorem plus_calls {w : World} {da db : List Nat} {va vb : Value} (ha : Reads w va da.length 1 (u32s da)) (hb : Reads w vb db.length 1 (u32s db)) (hDa : Dig 4294967296 da) (hDb : Dig 4294967296 db) (hla : da.length ≤ 100000) (hlb : db.length ≤ 100000) :
    Calls Tryd.prog 43 #[va, vb] w (FreshPost w (val 4294967296 da + val 4294967296 db) (max da.length db.length + 1)) := by
  have hda := fun w1 (hf : Fr [] w w1) i => digit_calls (ha.fr hf) (by omega) i
  have hdb := fun w1 (hf : Fr [] w w1) i => digit_calls (hb.fr hf) (by omega) i
  have Hda := Lib.hid hda
  have Hdb := Lib.hid hdb
  obtain ⟨_, a, ac, rfl, _⟩ := ha
  obtain ⟨_, b, bc, rfl, _⟩ := hb
  have HDa := Lib.hid hDa
  have HDb := Lib.hid hDb
  clear hda hdb hDa hDb
  have Hna := Lib.hid (show ((da.length : Int) + 1) = ((da.length + 1 : Nat) : Int) by omega)
  have Hnb := Lib.hid (show ((db.length : Int) + 1) = ((db.length + 1 : Nat) : Int) by omega)
  by_cases hlt : da.length < db.length
  · go_enter Tryd.func43, Tryd.ntmps43
    go_wp2_with (refine wpList_make1 rfl (t := 22) (e := 45) (n := db.length + 1) (z := .int .u32 0) (bytes := 4) rfl (congrArg (Value.int .i64) Hnb.out) (congrArg (Value.int .i64) Hnb.out) Tryd.underlying22 info_u32 rfl (by omega) (by unfold maxLen; omega) ?_)
    intro w1 ho1 hf1 hsz1
    obtain ⟨n, hn⟩ : ∃ n : Nat, db.length + 1 = n := ⟨_, rfl⟩
    have hni : ((db.length : Int) + 1) = n := by omega
    rw [hn] at ho1
    rw [hn, hni]
    have hn1 : da.length + 1 ≤ n := by omega
    have hn2 : db.length + 1 ≤ n := by omega
    have hn3 : n ≤ max da.length db.length + 1 := by omega
    have hn4 : n ≤ 100001 := by omega
    have HN3 := Lib.hid hn3
    have Ho1 := Lib.hid ho1
    have Hf1 := Lib.hid hf1
    clear ho1 hf1 hn hni hlt hn3
    go_wp2_with fail
    go_loopw [7, 18] (fun xc xk wl => ∃ (k c : Nat) (l : List Nat), xc = .int .u64 c ∧ xk = .int .i64 k ∧ k ≤ n ∧ c < 4294967296 ∧ l.length = n ∧ Dig 4294967296 l ∧ val 4294967296 (l.take k) + 4294967296 ^ k * c = val 4294967296 (da.take k) + val 4294967296 (db.take k) ∧
        wl.ownsRow w.heap.size 45 1 (.slice (some ⟨w.heap.size, 0, none⟩) n n) n (u32s l) ∧ Fr [] w wl) (fun _ xk _ => n - (intOf xk).toNat)
    case atStart => exact ⟨0, 0, List.replicate n 0, rfl, rfl, by omega, by omega, List.length_replicate, Dig.replicate (by omega) n, by simp [val], by rw [u32s_zero]; exact Ho1.out, Hf1.out⟩
    case round =>
      obtain ⟨k, c, l, rfl, rfl, hk, hc, hl, hD, hv, ho, hf⟩ := hrel
      have hol := owns_lt ho rfl
      have Ho := Lib.hid ho
      have Hf := Lib.hid hf
      have HD := Lib.hid hD
      have Hv := Lib.hid hv
      have Hl := Lib.hid hl
      by_cases hkn : k < n
      · have hcz := owns_cell ho rfl (u32s_get (l := l) (i := k) (by omega))
        have hz := owns_frozen ho rfl k
        have hxl := HDa.out.getD (by omega : 0 < 4294967296) k
        have hyl := HDb.out.getD (by omega : 0 < 4294967296) k
        have hst := sum_step (B := 4294967296) (s := c + da.getD k 0 + db.getD k 0) (by omega) hv rfl
        rw [← val_take_succ, ← val_take_succ, ← Nat.pow_succ] at hst
        have hda := fun w2 (hf2 : Fr [] w w2) => Hda.out w2 hf2 k
        have hdb := fun w2 (hf2 : Fr [] w w2) => Hdb.out w2 hf2 k
        have hca := fun (w2 : World) (b : Nat) (hb : w2.heap[b]? = some (.cells #[.int .u32 (da.getD k 0 : Nat), .int .u32 (db.getD k 0 : Nat)] 45 (0, 0))) => carry_calls (c := c) hc hxl hyl hb
        have hset := fun d => owns_set ho rfl (j := k) (by rw [u32s_length]; omega) (.int .u32 d)
        have Hset := Lib.hid hset
        have Hst := Lib.hid hst
        have HA := Lib.hid hda
        have HB := Lib.hid hdb
        have HC := Lib.hid hca
        clear ho hf hD hv hl hst hda hdb hca hset
        generalize da.getD k 0 = x at *
        generalize db.getD k 0 = y at *
        generalize l.getD k 0 = z at *
        go_wp2_with fail
        refine (HA.out _ Hf.out).mono ?_
        rintro e w2 ⟨rfl, rfl⟩
        go_wp2_with fail
        refine (HB.out _ Hf.out).mono ?_
        rintro e w2 ⟨rfl, rfl⟩
        go_wp2_with fail
        refine (HC.out _ _ (by (repeat (first | rw [if_pos (by omega)] | rw [if_neg (by omega)] | rw [hp_drew] | rw [hp_drewN] | rw [hp_alloc_size] | rw [hp_setCell_size] | rw [hp_alloc] | rw [hp_setCell] | rw [Option.map_some] | rw [upd_cells] | rw [List.set_cons_zero] | rw [List.set_cons_succ] | rfl)))).mono ?_
        rintro e w2 ⟨rfl, rfl⟩
        have hdl : (c + x + y) % 4294967296 < 4294967296 := Nat.mod_lt _ (by omega)
        have hcl : (c + x + y) / 4294967296 < 4294967296 := by omega
        generalize (c + x + y) % 4294967296 = d at *
        generalize (c + x + y) / 4294967296 = c2 at *
        clear hxl hyl
        go_wp2
        go_roundw
        case rel =>
          refine ⟨k + 1, c2, l.set k d, rfl, by go_num, by omega, hcl, by rw [List.length_set]; exact Hl.out, HD.out.set hdl, ?_, ?_, ?_⟩
          · rw [val_set_take (by have := Hl.out; omega)]; exact Hst.out
          · rw [u32s_set]
            refine owns_of_block (Hset.out d) fun z hz => ?_
            have hzz : w.heap.size = z := by simpa [Value.ownBlock] using hz
            subst hzz
            exact heap_alloc_else _ _ _ (by rw [hp_setCell_size]; exact hol)
          · exact (Hf.out.setCell (.inr (by simp)) _).alloc _
        case measure => simp [intOf]; omega
      · obtain rfl : k = n := by omega
        have hv' := Hv.out
        rw [List.take_of_length_le (by have := Hl.out; omega), List.take_of_length_le (by omega), List.take_of_length_le (by omega)] at hv'
        have hc0 := plus_end (by omega) hv' (val_lt HDa.out) (val_lt HDb.out) hn1 hn2
        subst hc0
        have Hv2 := Lib.hid hv'
        clear ho hf hD hv hl hv'
        go_wp2
        go_ret
        have hl := Hl.out
        subst hl
        exact ⟨_, _, l, rfl, Ho.out, HD.out, by have h := Hv2.out; first | exact h | (rw [Nat.mul_zero, Nat.add_zero] at h; exact h), HN3.out, Nat.le_refl _, Hf.out⟩
  · go_enter Tryd.func43, Tryd.ntmps43
    go_wp2_with (refine wpList_make1 rfl (t := 22) (e := 45) (n := da.length + 1) (z := .int .u32 0) (bytes := 4) rfl (congrArg (Value.int .i64) Hna.out) (congrArg (Value.int .i64) Hna.out) Tryd.underlying22 info_u32 rfl (by omega) (by unfold maxLen; omega) ?_)
    intro w1 ho1 hf1 hsz1
    obtain ⟨n, hn⟩ : ∃ n : Nat, da.length + 1 = n := ⟨_, rfl⟩
    have hni : ((da.length : Int) + 1) = n := by omega
    rw [hn] at ho1
    rw [hn, hni]
    have hn1 : da.length + 1 ≤ n := by omega
    have hn2 : db.length + 1 ≤ n := by omega
    have hn3 : n ≤ max da.length db.length + 1 := by omega
    have hn4 : n ≤ 100001 := by omega
    have HN3 := Lib.hid hn3
    have Ho1 := Lib.hid ho1
    have Hf1 := Lib.hid hf1
    clear ho1 hf1 hn hni hlt hn3
    go_wp2_with fail
    go_loopw [7, 18] (fun xc xk wl => ∃ (k c : Nat) (l : List Nat), xc = .int .u64 c ∧ xk = .int .i64 k ∧ k ≤ n ∧ c < 4294967296 ∧ l.length = n ∧ Dig 4294967296 l ∧ val 4294967296 (l.take k) + 4294967296 ^ k * c = val 4294967296 (da.take k) + val 4294967296 (db.take k) ∧
        wl.ownsRow w.heap.size 45 1 (.slice (some ⟨w.heap.size, 0, none⟩) n n) n (u32s l) ∧ Fr [] w wl) (fun _ xk _ => n - (intOf xk).toNat)
    case atStart => exact ⟨0, 0, List.replicate n 0, rfl, rfl, by omega, by omega, List.length_replicate, Dig.replicate (by omega) n, by simp [val], by rw [u32s_zero]; exact Ho1.out, Hf1.out⟩
    case round =>
      obtain ⟨k, c, l, rfl, rfl, hk, hc, hl, hD, hv, ho, hf⟩ := hrel
      have hol := owns_lt ho rfl
      have Ho := Lib.hid ho
      have Hf := Lib.hid hf
      have HD := Lib.hid hD
      have Hv := Lib.hid hv
      have Hl := Lib.hid hl
      by_cases hkn : k < n
      · have hcz := owns_cell ho rfl (u32s_get (l := l) (i := k) (by omega))
        have hz := owns_frozen ho rfl k
        have hxl := HDa.out.getD (by omega : 0 < 4294967296) k
        have hyl := HDb.out.getD (by omega : 0 < 4294967296) k
        have hst := sum_step (B := 4294967296) (s := c + da.getD k 0 + db.getD k 0) (by omega) hv rfl
        rw [← val_take_succ, ← val_take_succ, ← Nat.pow_succ] at hst
        have hda := fun w2 (hf2 : Fr [] w w2) => Hda.out w2 hf2 k
        have hdb := fun w2 (hf2 : Fr [] w w2) => Hdb.out w2 hf2 k
        have hca := fun (w2 : World) (b : Nat) (hb : w2.heap[b]? = some (.cells #[.int .u32 (da.getD k 0 : Nat), .int .u32 (db.getD k 0 : Nat)] 45 (0, 0))) => carry_calls (c := c) hc hxl hyl hb
        have hset := fun d => owns_set ho rfl (j := k) (by rw [u32s_length]; omega) (.int .u32 d)
        have Hset := Lib.hid hset
        have Hst := Lib.hid hst
        have HA := Lib.hid hda
        have HB := Lib.hid hdb
        have HC := Lib.hid hca
        clear ho hf hD hv hl hst hda hdb hca hset
        generalize da.getD k 0 = x at *
        generalize db.getD k 0 = y at *
        generalize l.getD k 0 = z at *
        go_wp2_with fail
        refine (HA.out _ Hf.out).mono ?_
        rintro e w2 ⟨rfl, rfl⟩
        go_wp2_with fail
        refine (HB.out _ Hf.out).mono ?_
        rintro e w2 ⟨rfl, rfl⟩
        go_wp2_with fail
        refine (HC.out _ _ (by (repeat (first | rw [if_pos (by omega)] | rw [if_neg (by omega)] | rw [hp_drew] | rw [hp_drewN] | rw [hp_alloc_size] | rw [hp_setCell_size] | rw [hp_alloc] | rw [hp_setCell] | rw [Option.map_some] | rw [upd_cells] | rw [List.set_cons_zero] | rw [List.set_cons_succ] | rfl)))).mono ?_
        rintro e w2 ⟨rfl, rfl⟩
        have hdl : (c + x + y) % 4294967296 < 4294967296 := Nat.mod_lt _ (by omega)
        have hcl : (c + x + y) / 4294967296 < 4294967296 := by omega
        generalize (c + x + y) % 4294967296 = d at *
        generalize (c + x + y) / 4294967296 = c2 at *
        clear hxl hyl
        go_wp2
        go_roundw
        case rel =>
          refine ⟨k + 1, c2, l.set k d, rfl, by go_num, by omega, hcl, by rw [List.length_set]; exact Hl.out, HD.out.set hdl, ?_, ?_, ?_⟩
          · rw [val_set_take (by have := Hl.out; omega)]; exact Hst.out
          · rw [u32s_set]
            refine owns_of_block (Hset.out d) fun z hz => ?_
            have hzz : w.heap.size = z := by simpa [Value.ownBlock] using hz
            subst hzz
            exact heap_alloc_else _ _ _ (by rw [hp_setCell_size]; exact hol)
          · exact (Hf.out.setCell (.inr (by simp)) _).alloc _
        case measure => simp [intOf]; omega
      · obtain rfl : k = n := by omega
        have hv' := Hv.out
        rw [List.take_of_length_le (by have := Hl.out; omega), List.take_of_length_le (by omega), List.take_of_length_le (by omega)] at hv'
        have hc0 := plus_end (by omega) hv' (val_lt HDa.out) (val_lt HDb.out) hn1 hn2
        subst hc0
        have Hv2 := Lib.hid hv'
        clear ho hf hD hv hl hv'
        go_wp2
        go_ret
        have hl := Hl.out
        subst hl
        exact ⟨_, _, l, rfl, Ho.out, HD.out, by have h := Hv2.out; first | exact h | (rw [Nat.mul_zero, Nat.add_zero] at h; exact h), HN3.out, Nat.le_refl _, Hf.out⟩
set_option maxHeartbeats 4000000 in
set_option maxRecDepth 100000 in
theorem minus_calls {w : World} {da db : List Nat} {va vb : Value} (ha : Reads w va da.length 1 (u32s da)) (hb : Reads w vb db.length 1 (u32s db)) (hDa : Dig 4294967296 da) (hDb : Dig 4294967296 db) (hla : da.length ≤ 100000) (hlb : db.length ≤ da.length) (hle : val 4294967296 db ≤ val 4294967296 da) :
    Calls Tryd.prog 50 #[va, vb] w (FreshPost w (val 4294967296 da - val 4294967296 db) da.length) := by
  have hdb := fun w1 (hf : Fr [] w w1) i => digit_calls (hb.fr hf) (by omega) i
  have Hdb := Lib.hid hdb
  obtain ⟨_, a, ac, rfl, haa⟩ := ha
  obtain ⟨_, b, bc, rfl, _⟩ := hb
  have Haa := Lib.hid haa
  have HDa := Lib.hid hDa
  have HDb := Lib.hid hDb
  have Hle := Lib.hid hle
  obtain ⟨n, hn⟩ : ∃ n, da.length = n := ⟨_, rfl⟩
  have Hn := Lib.hid hn
  rw [hn] at Haa hla hlb ⊢
  clear hdb hDa hDb haa hle hn
  go_enter Tryd.func50, Tryd.ntmps50
  go_wp2_with (refine wpList_make1 rfl (t := 22) (e := 45) (n := n) (z := .int .u32 0) (bytes := 4) rfl rfl rfl Tryd.underlying22 info_u32 rfl (by omega) (by unfold maxLen; omega) ?_)
  intro w1 ho1 hf1 hsz1
  have Ho1 := Lib.hid ho1
  have Hf1 := Lib.hid hf1
  clear ho1 hf1
  go_wp2_with fail
  go_loopw [6, 13] (fun xb xk wl => ∃ (k bo : Nat) (l : List Nat), xb = .int .u32 bo ∧ xk = .int .i64 k ∧ k ≤ n ∧ bo ≤ 1 ∧ l.length = n ∧ Dig 4294967296 l ∧ val 4294967296 (l.take k) + val 4294967296 (db.take k) = val 4294967296 (da.take k) + 4294967296 ^ k * bo ∧
      wl.ownsRow w.heap.size 45 1 (.slice (some ⟨w.heap.size, 0, none⟩) n n) n (u32s l) ∧ Fr [] w wl) (fun _ xk _ => n - (intOf xk).toNat)
  case atStart => exact ⟨0, 0, List.replicate n 0, rfl, rfl, by omega, by omega, List.length_replicate, Dig.replicate (by omega) n, by simp [val], by rw [u32s_zero]; exact Ho1.out, Hf1.out⟩
  case round =>
    obtain ⟨k, bo, l, rfl, rfl, hk, hbo, hl, hD, hv, ho, hf⟩ := hrel
    have hol := owns_lt ho rfl
    have Ho := Lib.hid ho
    have Hf := Lib.hid hf
    have HD := Lib.hid hD
    have Hv := Lib.hid hv
    have Hl := Lib.hid hl
    by_cases hkn : k < n
    · obtain ⟨g, off, rfl, hg, hc⟩ := Haa.out (by omega)
      have e1 := (hf.cell (p := ⟨g, off + k, none⟩) hg (by simp)).trans (hc k _ (u32s_get (by have := Hn.out; omega)))
      have hgr : g < wr.heap.size := by have := hf.size; omega
      have hcz := owns_cell ho rfl (u32s_get (l := l) (i := k) (by omega))
      have hz := owns_frozen ho rfl k
      have hxl := HDa.out.getD (by omega : 0 < 4294967296) k
      have hyl := HDb.out.getD (by omega : 0 < 4294967296) k
      have hst := diff_step (B := 4294967296) (P := 4294967296 ^ k) hv (sub_digit hxl hyl hbo)
      rw [← val_take_succ, ← val_take_succ, ← Nat.pow_succ] at hst
      have hdb := fun w2 (hf2 : Fr [] w w2) => Hdb.out w2 hf2 k
      have hsu := fun (w2 : World) => Sub32_calls (w := w2) hxl hyl hbo
      have hset := fun d => owns_set ho rfl (j := k) (by rw [u32s_length]; omega) (.int .u32 d)
      have hdl : (da.getD k 0 + 4294967296 - db.getD k 0 - bo) % 4294967296 < 4294967296 := Nat.mod_lt _ (by omega)
      have hbl := bor_le (da.getD k 0) (db.getD k 0) bo
      have Hset := Lib.hid hset
      have Hst := Lib.hid hst
      have HB := Lib.hid hdb
      have HC := Lib.hid hsu
      have Hdl := Lib.hid hdl
      have Hbl := Lib.hid hbl
      clear ho hf hD hv hl hst hdb hsu hset hxl hyl hc hdl hbl
      generalize (da.getD k 0 + 4294967296 - db.getD k 0 - bo) % 4294967296 = d at *
      generalize bor (da.getD k 0) (db.getD k 0) bo = b2 at *
      generalize da.getD k 0 = x at *
      generalize db.getD k 0 = y at *
      generalize l.getD k 0 = z at *
      go_wp2
      refine wp_region_segs [([0, 1, 2, 3, 4, 5, 6, 7, 8], [5]), ([9, 10, 11, 12, 13, 14, 15, 16], [])] (by kernel_rfl) (by kernel_rfl) ?_
      (simp only [wpSegs, pick, Array.getD_eq_getD_getElem?, List.getElem?_toArray, List.getElem?_cons_succ, List.getElem?_cons_zero, Option.getD_some])
      go_wp2_with fail
      refine (HB.out _ (by have := Hf.out; (repeat (first | exact Fr.refl _ _ | assumption | apply Fr.drewN | apply Fr.drew | apply Fr.alloc | refine Fr.setCell ?_ (Or.inr (by simp; try omega)) _)))).mono ?_
      rintro e w2 ⟨rfl, rfl⟩
      go_wp2
      refine Mid.intro ⟨⟨again_cell (T := 45) rfl rfl rfl Tryd.underlying45 rfl e1 rfl, trivial⟩, ?_⟩
      go_wp2_with fail
      refine (HC.out _).mono ?_
      rintro e w2 ⟨rfl, rfl⟩
      go_wp2
      refine Mid.intro ⟨trivial, Strict.intro rfl ?_⟩
      go_wp2
      go_roundw
      case rel =>
        refine ⟨k + 1, b2, l.set k d, rfl, by go_num, by omega, Hbl.out, by rw [List.length_set]; exact Hl.out, HD.out.set Hdl.out, ?_, ?_, ?_⟩
        · rw [val_set_take (by have := Hl.out; omega)]; exact Hst.out
        · rw [u32s_set]
          exact Hset.out d
        · exact (Hf.out.setCell (.inr (by simp)) _).drew
      case measure => simp [intOf]; omega
    · obtain rfl : k = n := by omega
      have hv' := Hv.out
      rw [List.take_of_length_le (by have := Hl.out; omega), List.take_of_length_le (by omega), List.take_of_length_le (by have := Hn.out; omega)] at hv'
      have hvl := val_lt hD
      rw [hl] at hvl
      obtain ⟨hb0, hv2⟩ := minus_end hv' hvl Hle.out
      subst hb0
      have Hv2 := Lib.hid hv2
      clear ho hf hD hv hl hv' hvl hv2
      go_wp2
      go_ret
      have hl := Hl.out
      subst hl
      exact ⟨_, _, l, rfl, Ho.out, HD.out, Hv2.out, Nat.le_refl _, Nat.le_refl _, Hf.out⟩
end Go.Proofs.YtbacamboknmppaaDoor
