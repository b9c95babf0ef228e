/- The reader of package bitio: Gamma, Signed, End, NewReader. -/
import Derived.Test.YtfcihdicbncoaaaBr
namespace Go.Proofs.Ytfcihdicbncoaaa
open Go Go.RowKit Go.Proofs.Rg Go.Proofs.Hp Go.Proofs.Bp
def rGamma (bs : List Bool) (p : Nat) : (Int × Int) × Nat :=
  if 64 ≤ zeros (bs.drop p) then ((0, 3), p) else if bs.length < p + (2 * zeros (bs.drop p) + 1) then ((0, 4), p)
  else if 9223372036854775809 ≤ num ((bs.drop (p + zeros (bs.drop p))).take (zeros (bs.drop p) + 1)) then ((0, 3), p)
  else (((num ((bs.drop (p + zeros (bs.drop p))).take (zeros (bs.drop p) + 1)) : Int) - 1, 0), p + (2 * zeros (bs.drop p) + 1))
theorem num_pos {l : List Bool} (h : l[0]? = some true) : 2 ^ (l.length - 1) ≤ num l := by
  induction l using snocInd with
  | h0 => simp at h
  | h1 l b ih =>
    rw [num_snoc]
    cases l with
    | nil =>
      simp at h
      subst h
      decide
    | cons x l =>
      have := ih (by simpa using h)
      rw [List.length_append]
      show 2 ^ ((x :: l).length + 1 - 1) ≤ _
      rw [List.length_cons] at this ⊢
      rw [show l.length + 1 + 1 - 1 = (l.length + 1 - 1) + 1 by omega, Nat.pow_succ]
      omega
/-- what a read of an integer leaves -/
def RdCall (w : World) (b : Nat) (L : List Nat) (r : (Int × Int) × Nat) (F : List Nat) (e : Ending) (w' : World) : Prop :=
  e = .returned (.tuple #[.int .i64 r.1.1, .int .i64 r.1.2]) ∧ RdPost w b L r.2 F w'
theorem RdCall.same {w w' : World} {b p : Nat} {L : List Nat} {F : List Nat} {r : (Int × Int) × Nat} {x y : Int} (h : RdAt w b L p F) (hd : Drew w w') (hr : r = ((x, y), p)) : RdCall w b L r F (.returned (.tuple #[.int .i64 x, .int .i64 y])) w' := by
  subst hr; exact ⟨rfl, h.drew hd, hd.fr _⟩
set_option maxHeartbeats 4000000 in
theorem RGamma_calls {w : World} {b p : Nat} {L : List Nat} {F : List Nat} (hR : RdAt w b L p F) :
    Calls Try.prog 17 #[.pointer (some ⟨b, 0, none⟩)] w (RdCall w b L (rGamma (unpack L) p) F) := by
  have HR := Lib.hid hR
  have HUL := Lib.hid (unpack_length L)
  have hl := Left_calls hR
  obtain ⟨h1, h2, h3, v, hI, rfl⟩ := hR
  obtain ⟨lf, hlf⟩ : ∃ lf, lf = 8 * L.length - p := ⟨_, rfl⟩
  rw [← hlf] at hl
  have HL := Lib.hid hl
  have b1 := heap_eq_cell hI.blk 1
  have f1 := heap_eq_frozen hI.blk 1
  have hb := lt_of_block hI.blk
  have HI := Lib.hid hI
  have H3 := Lib.hid h3
  have Hlf := Lib.hid hlf
  have hlf2 : lf ≤ 524288 := by omega
  have hp2 : p ≤ 524288 := by omega
  have H12 := Lib.hid (And.intro h1 h2)
  clear hl hI h3 hlf h1 h2
  go_enter Try.func17, Try.ntmps17
  go_wp2_with fail
  refine HL.out.mono ?_
  rintro e w1 ⟨rfl, n1, rfl⟩
  go_wp2_with fail
  go_loopw [4] (fun x wr => ∃ (k : Nat), x = .int .i64 k ∧ k ≤ 63 ∧ k ≤ lf ∧ (∀ j, j < k → ((unpack L).drop p)[j]? = some false) ∧ Drew w wr) (fun x _ => 64 - (intOf x).toNat)
  case atStart => exact ⟨0, rfl, by omega, by omega, fun j hj => by omega, n1, rfl⟩
  case round =>
    obtain ⟨k, rfl, hk, hkl, hz, n2, rfl⟩ := hrel
    have Hz := Lib.hid hz
    clear hz
    by_cases hlt : k < lf
    · have hb : Calls Try.prog 36 #[.pointer (some ⟨b, 0, none⟩), .int .i64 ((p : Int) + k)] (w.drewN n2) fun e w' => e = .returned (.int .u64 (bitAt L (p + k)).toNat) ∧ w.drewN n2 = w' :=
        bit_calls (HR.out.drew ⟨n2, rfl⟩) (k := p + k) (by have := Hlf.out; omega)
      have hget : ((unpack L).drop p)[k]? = some (bitAt L (p + k)) := by rw [List.getElem?_drop, unpack_get _ (by have := Hlf.out; omega)]
      cases hbt : bitAt L (p + k)
      · rw [hbt] at hb hget
        have Hb := Lib.hid hb
        have hz1 : ∀ j, j < k + 1 → ((unpack L).drop p)[j]? = some false := fun j hj => by
          by_cases h : j = k
          · subst h; exact hget
          · exact Hz.out j (by omega)
        have Hz1 := Lib.hid hz1
        clear hb hget hbt hz1
        go_wp2_with fail
        refine Hb.out.mono ?_
        rintro e w1 ⟨rfl, rfl⟩
        by_cases h63 : k = 63
        · subst h63
          have hr : rGamma (unpack L) p = ((0, 3), p) := by unfold rGamma; rw [if_pos (zeros_ge Hz1.out)]
          have Hr := Lib.hid hr
          clear hr
          go_wp2
          go_ret2
          exact RdCall.same HR.out ⟨n2, rfl⟩ Hr.out
        · have h63' : ((k : Int) == 63) = false := by simp; omega
          go_wp2
          go_roundw
          case rel => exact ⟨k + 1, by go_num, by omega, by omega, Hz1.out, n2, rfl⟩
          case measure => simp [intOf]; omega
      · rw [hbt] at hb hget
        have Hb := Lib.hid hb
        have hzk : zeros ((unpack L).drop p) = k := zeros_eq Hz.out (by rw [hget]; simp)
        have hrg : rGamma (unpack L) p = if (unpack L).length < p + (2 * k + 1) then ((0, 4), p) else if 9223372036854775809 ≤ num (((unpack L).drop (p + k)).take (k + 1)) then ((0, 3), p)
            else (((num (((unpack L).drop (p + k)).take (k + 1)) : Int) - 1, 0), p + (2 * k + 1)) := by
          unfold rGamma; rw [hzk, if_neg (by omega)]
        have Hget := Lib.hid hget
        have Hrg := Lib.hid hrg
        clear hb hget hbt hzk hrg
        by_cases hsh : lf < 2 * k + 1
        · have hr : rGamma (unpack L) p = ((0, 4), p) := by rw [Hrg.out, if_pos (by rw [HUL.out]; have := Hlf.out; have := H12.out; omega)]
          have Hr := Lib.hid hr
          clear hr
          go_wp2_with fail
          refine Hb.out.mono ?_
          rintro e w1 ⟨rfl, rfl⟩
          go_wp2
          go_ret2
          exact RdCall.same HR.out ⟨n2, rfl⟩ Hr.out
        · have hN : Calls Try.prog 37 #[.pointer (some ⟨b, 0, none⟩), .int .i64 ((p : Int) + k), .int .i64 ((k : Int) + 1)] (w.drewN n2) fun e w' => e = .returned (.int .u64 (num (((unpack L).drop (p + k)).take (k + 1)))) ∧ w.drewN n2 = w' :=
            number_calls (HR.out.drew ⟨n2, rfl⟩) (p := p + k) (n := k + 1) (by omega) (by have := Hlf.out; have := H12.out; omega)
          have hlen : (((unpack L).drop (p + k)).take (k + 1)).length = k + 1 := by
            have := Hlf.out; have := H12.out
            rw [List.length_take, List.length_drop, HUL.out]; omega
          have hpos := num_pos (l := ((unpack L).drop (p + k)).take (k + 1)) (by have := Hget.out; rw [List.getElem?_drop] at this; rw [List.getElem?_take, if_pos (by omega), List.getElem?_drop]; exact this)
          have hnl := num_lt (((unpack L).drop (p + k)).take (k + 1))
          rw [hlen] at hpos hnl
          have hnl2 : 2 ^ (k + 1) ≤ 2 ^ 64 := Nat.pow_le_pow_right (by omega) (by omega)
          have hp1 : 1 ≤ 2 ^ (k + 1 - 1) := Nat.one_le_two_pow
          obtain ⟨m, hm⟩ : ∃ m, m = num (((unpack L).drop (p + k)).take (k + 1)) := ⟨_, rfl⟩
          rw [← hm] at hN hpos hnl
          have hm1 : 1 ≤ m ∧ m < 18446744073709551616 := by omega
          have HN := Lib.hid hN
          have Hm1 := Lib.hid hm1
          have Hm := Lib.hid hm
          have hw1 : IntKind.u64.wrap ((m : Int) - 1) = m - 1 := IntWalk.u64_in _ (by omega)
          clear hN hlen hpos hnl hnl2 hp1 hm hm1
          by_cases hbig : 9223372036854775809 ≤ m
          · have hd : decide ((9223372036854775807 : Int) < (m : Int) - 1) = true := by simp; omega
            have hr : rGamma (unpack L) p = ((0, 3), p) := by rw [Hrg.out, if_neg (by rw [HUL.out]; have := Hlf.out; have := H12.out; omega), ← Hm.out, if_pos hbig]
            have Hr := Lib.hid hr
            clear hr hbig
            go_wp2_with fail
            refine Hb.out.mono ?_
            rintro e w1 ⟨rfl, rfl⟩
            go_wp2_with fail
            refine HN.out.mono ?_
            rintro e w1 ⟨rfl, rfl⟩
            go_wp2
            go_ret2
            exact RdCall.same HR.out ⟨n2, rfl⟩ Hr.out
          · have hd : decide ((9223372036854775807 : Int) < (m : Int) - 1) = false := by simp; omega
            have hr : rGamma (unpack L) p = (((m : Int) - 1, 0), p + (2 * k + 1)) := by rw [Hrg.out, if_neg (by rw [HUL.out]; have := Hlf.out; have := H12.out; omega), ← Hm.out, if_neg hbig]
            have Hr := Lib.hid hr
            have hw2 : IntKind.i64.wrap ((m : Int) - 1) = m - 1 := IntWalk.i64_in _ (by have := Hm1.out; omega)
            clear hr hbig
            go_wp2_with fail
            refine Hb.out.mono ?_
            rintro e w1 ⟨rfl, rfl⟩
            go_wp2_with fail
            refine HN.out.mono ?_
            rintro e w1 ⟨rfl, rfl⟩
            go_wp2
            go_ret2
            rw [Hr.out]
            refine ⟨rfl, ⟨H12.out.1, by have := Hlf.out; have := H12.out; omega, H3.out, v, ⟨?_, HI.out.move.row, HI.out.ne⟩, rfl⟩, by (repeat (first | exact Fr.refl _ _ | assumption | apply Fr.drewN | apply Fr.drew | apply Fr.alloc | refine Fr.setCell ?_ (Or.inl (by simp)) _))⟩
            exact (HI.out.move (p' := p + (2 * k + 1))).blk
    · obtain rfl : k = lf := by omega
      have hzk : zeros ((unpack L).drop p) = k := zeros_eq Hz.out (by rw [List.getElem?_eq_none (by rw [List.length_drop, HUL.out]; have := Hlf.out; omega)]; simp)
      have hr : rGamma (unpack L) p = ((0, 4), p) := by unfold rGamma; rw [hzk, if_neg (by omega), if_pos (by rw [HUL.out]; have := Hlf.out; have := H12.out; omega)]
      have Hr := Lib.hid hr
      clear hr hzk
      go_wp2
      go_ret2
      exact RdCall.same HR.out ⟨n2, rfl⟩ Hr.out
def unfold2 (n : Int) : Int := if n % 2 = 1 then -(n / 2) - 1 else n / 2
def rSigned (bs : List Bool) (p : Nat) : (Int × Int) × Nat := ((unfold2 (rGamma bs p).1.1, (rGamma bs p).1.2), (rGamma bs p).2)
theorem rGamma_range (bs : List Bool) (p : Nat) : 0 ≤ (rGamma bs p).1.1 ∧ (rGamma bs p).1.1 ≤ 9223372036854775807 := by
  unfold rGamma
  split
  · simp
  · split
    · simp
    · split
      · simp
      · rename_i h1 h2 h3
        have hlen : zeros (bs.drop p) < (bs.drop p).length := by rw [List.length_drop]; omega
        have := num_pos (l := (bs.drop (p + zeros (bs.drop p))).take (zeros (bs.drop p) + 1)) (by
          have := zeros_end hlen
          rw [List.getElem?_drop] at this
          rw [List.getElem?_take, if_pos (by omega), List.getElem?_drop]; exact this)
        have hp1 : 1 ≤ 2 ^ (((bs.drop (p + zeros (bs.drop p))).take (zeros (bs.drop p) + 1)).length - 1) := Nat.one_le_two_pow
        simp only
        omega
set_option maxHeartbeats 2000000 in
theorem RSigned_calls {w : World} {b p : Nat} {L : List Nat} {F : List Nat} (hR : RdAt w b L p F) :
    Calls Try.prog 24 #[.pointer (some ⟨b, 0, none⟩)] w (RdCall w b L (rSigned (unpack L) p) F) := by
  have hG := RGamma_calls hR
  have hrg := rGamma_range (unpack L) p
  unfold rSigned
  obtain ⟨r, hr⟩ : ∃ r, r = rGamma (unpack L) p := ⟨_, rfl⟩
  rw [← hr] at hG hrg ⊢
  obtain ⟨⟨x, y⟩, z⟩ := r
  have HG := Lib.hid hG
  clear hG hr
  simp only at hrg
  obtain ⟨hx1, hx2⟩ := hrg
  by_cases h2 : x % 2 = 1
  · have hu : unfold2 x = -(x / 2) - 1 := by unfold unfold2; rw [if_pos h2]
    have Hu := Lib.hid hu
    have hd : (x % 2 == 1) = true := by simpa using h2
    clear hu h2
    go_enter Try.func24, Try.ntmps24
    go_wp2_with fail
    refine HG.out.mono ?_
    rintro e w1 ⟨rfl, h⟩
    have H := Lib.hid h
    clear h
    go_wp2
    go_ret2
    refine ⟨?_, H.out⟩
    rw [Hu.out]; rfl
  · have hu : unfold2 x = x / 2 := by unfold unfold2; rw [if_neg h2]
    have Hu := Lib.hid hu
    have hd : (x % 2 == 1) = false := by simpa using h2
    clear hu h2
    go_enter Try.func24, Try.ntmps24
    go_wp2_with fail
    refine HG.out.mono ?_
    rintro e w1 ⟨rfl, h⟩
    have H := Lib.hid h
    clear h
    go_wp2
    go_ret2
    refine ⟨?_, H.out⟩
    rw [Hu.out]; rfl
def rEnd (bs : List Bool) (p : Nat) : Bool := decide (bs.length - p < 8) && (bs.drop p).all fun b => !b
theorem num_zero {l : List Bool} : num l = 0 ↔ (l.all fun b => !b) = true := by
  induction l using snocInd with
  | h0 => simp [num]
  | h1 l b ih =>
    rw [num_snoc, List.all_append, Bool.and_eq_true, ← ih]
    cases b
    · simp; omega
    · simp
set_option maxHeartbeats 2000000 in
theorem End_calls {w : World} {b p : Nat} {L : List Nat} {F : List Nat} (hR : RdAt w b L p F) :
    Calls Try.prog 27 #[.pointer (some ⟨b, 0, none⟩)] w fun e w' => e = .returned (.bool (rEnd (unpack L) p)) ∧ Drew w w' := by
  have HR := Lib.hid hR
  have hl := fun w1 (h : Drew w w1) => Left_calls (hR.drew h)
  obtain ⟨lf, hlf⟩ : ∃ lf, lf = 8 * L.length - p := ⟨_, rfl⟩
  have hp := hR.2.1
  have hL := hR.1
  have hre : rEnd (unpack L) p = (decide (lf < 8) && decide (num (((unpack L).drop p).take lf) = 0)) := by
    unfold rEnd
    rw [unpack_length, ← hlf, List.take_of_length_le (by rw [List.length_drop, unpack_length]; omega)]
    congr 1
    rw [Bool.eq_iff_iff, decide_eq_true_eq]
    exact num_zero.symm
  rw [← hlf] at hl
  obtain ⟨_, _, _, v, hI, rfl⟩ := hR
  have b1 := heap_eq_cell hI.blk 1
  have HL := Lib.hid hl
  have Hre := Lib.hid hre
  have hlf2 : lf ≤ 524288 := by omega
  have Hlf := Lib.hid hlf
  have hp2 : p ≤ 524288 := by omega
  have Hp := Lib.hid hp
  clear hl hre hlf hI hp hL
  by_cases h8 : lf < 8
  · have hN : ∀ w1, Drew w w1 → Calls Try.prog 37 #[.pointer (some ⟨b, 0, none⟩), .int .i64 p, .int .i64 lf] w1 fun e w' => e = .returned (.int .u64 (num (((unpack L).drop p).take lf))) ∧ w1 = w' := fun w1 h =>
      number_calls (HR.out.drew h) (p := p) (n := lf) (by omega) (by have := Hlf.out; have := Hp.out; omega)
    have HN := Lib.hid hN
    have hd : decide ((lf : Int) < 8) = true := by simp; omega
    clear hN
    go_enter Try.func27, Try.ntmps27
    go_wp2
    refine wp_region_segs [([0, 1, 2, 3, 4, 5, 6, 7, 8, 9, 10, 11, 12, 13, 14], [12]), ([15, 16, 17, 18], [])] (by kernel_rfl) (by kernel_rfl) ?_
    (simp only [wpSegs, pick, Array.getD_eq_getD_getElem?, List.getElem?_toArray, List.getElem?_cons_succ, List.getElem?_cons_zero, Option.getD_some])
    go_wp2_with fail
    refine (HL.out _ ⟨1, rfl⟩).mono ?_
    rintro e w1 ⟨rfl, n1, rfl⟩
    go_wp2_with fail
    refine (HL.out _ ⟨_, rfl⟩).mono ?_
    rintro e w1 ⟨rfl, n2, rfl⟩
    go_wp2
    refine Mid.intro ⟨⟨again_cell (T := 3) rfl rfl rfl Try.underlying3 rfl (show World.cell? _ ⟨b, 1, none⟩ = _ from b1) rfl, trivial⟩, ?_⟩
    go_wp2_with fail
    refine (HN.out _ ⟨_, rfl⟩).mono ?_
    rintro e w1 ⟨rfl, rfl⟩
    go_wp2
    refine Mid.intro ⟨trivial, Strict.intro rfl ?_⟩
    go_wp2
    go_ret
    refine ⟨?_, _, rfl⟩
    rw [Hre.out]
    refine congrArg (fun x => Ending.returned (.bool x)) ?_
    rw [decide_eq_true h8, Bool.true_and, Bool.eq_iff_iff]
    simp
  · have hd : decide ((lf : Int) < 8) = false := by simp; omega
    have hr : rEnd (unpack L) p = false := by rw [Hre.out, decide_eq_false h8]; rfl
    have Hr := Lib.hid hr
    clear hr h8
    go_enter Try.func27, Try.ntmps27
    go_wp2
    refine wp_region_segs [([0, 1, 2, 3, 4, 5, 6, 7, 8, 9, 10, 11, 12, 13, 14], [12]), ([15, 16, 17, 18], [])] (by kernel_rfl) (by kernel_rfl) ?_
    (simp only [wpSegs, pick, Array.getD_eq_getD_getElem?, List.getElem?_toArray, List.getElem?_cons_succ, List.getElem?_cons_zero, Option.getD_some])
    go_wp2_with fail
    refine (HL.out _ ⟨1, rfl⟩).mono ?_
    rintro e w1 ⟨rfl, n1, rfl⟩
    go_wp2
    refine Mid.intro ⟨⟨fun o ho hw => by obtain rfl := Option.some.inj ho; exact absurd hw (by simp [Region.wanted, yielded]), trivial⟩, ?_⟩
    go_wp2
    refine Mid.intro ⟨trivial, Strict.intro rfl ?_⟩
    go_wp2
    go_ret
    exact ⟨by rw [Hr.out]; rfl, _, rfl⟩
set_option maxHeartbeats 2000000 in
theorem NewReader_calls {w : World} {v : Value} {L : List Nat} (hv : Reads w v L.length 1 (u8s L)) (hL : L.length ≤ 65536) (h256 : ∀ x ∈ L, x < 256) :
    Calls Try.prog 16 #[v] w fun e w' => ∃ b F, e = .returned (.tuple #[.pointer (some ⟨b, 0, none⟩), .int .i64 0]) ∧ RdAt w' b L 0 F ∧ Fr [] w w' ∧ ∀ x ∈ F, w.heap.size ≤ x := by
  have hC := Clone_u8 hv (u8s_one _) (by omega)
  obtain ⟨_, a, c, rfl, _⟩ := hv
  have HC := Lib.hid hC
  have H256 := Lib.hid h256
  have hd : decide ((65536 : Int) < (L.length : Int)) = false := by simp; omega
  clear hC h256
  go_enter Try.func16, Try.ntmps16
  go_wp2_with fail
  refine HC.out.mono ?_
  rintro e w1 ⟨v1, rfl, ho, hf⟩
  obtain ⟨a1, c1, rfl, _, _⟩ := owns_form ho
  have Ho := Lib.hid ho
  have Hf := Lib.hid hf
  clear ho hf
  go_wp2
  go_ret2
  refine ⟨w1.heap.size, w1.heap.size :: (Value.slice a1 L.length c1).ownBlock.toList, rfl, ⟨hL, by omega, H256.out, _, ⟨by (repeat (first | rw [if_pos (by omega)] | rw [if_neg (by omega)] | rw [hp_drew] | rw [hp_drewN] | rw [hp_alloc_size] | rw [hp_setCell_size] | rw [hp_alloc] | rw [hp_setCell] | rw [Option.map_some] | rw [upd_cells] | rw [List.set_cons_zero] | rw [List.set_cons_succ] | rfl)), ?_, ?_⟩, rfl⟩, Hf.out.alloc _, ?_⟩
  · exact owns_of_block (owns_base Ho.out (Nat.zero_le _)) fun x hx => heap_alloc_else _ _ _ (owns_lt Ho.out hx)
  · intro e; have := owns_lt Ho.out e; omega
  · intro x hx
    have h1 := Hf.out.size
    simp only [List.mem_cons, Option.mem_toList] at hx
    rcases hx with rfl | hx
    · omega
    · have := owns_ge Ho.out hx; omega
end Go.Proofs.Ytfcihdicbncoaaa
