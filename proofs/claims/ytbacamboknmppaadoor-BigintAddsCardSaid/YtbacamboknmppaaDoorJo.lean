/- Big integers: Text. -/
import Derived.Test.YtbacamboknmppaaDoorJn
namespace Go.Proofs.Bn
set_option linter.unusedVariables false
set_option linter.unusedSimpArgs false
theorem dg_div {B n : Nat} (hB : 2 ≤ B) (hn : n ≠ 0) : dg B n = n % B :: dg B (n / B) := dg_succ hB hn
/-- one decimal digit more -/
theorem dec_step {r M k : Nat} (h : 0 < r ∨ 0 < M) : dg 10 (r + 10 ^ (k + 1) * M) = r % 10 :: dg 10 (r / 10 + 10 ^ k * M) := by
  have hp := Nat.pow_pos (n := k) (show 0 < 10 by omega)
  have e : 10 ^ (k + 1) * M = 10 * (10 ^ k * M) := by rw [Nat.pow_succ, Nat.mul_comm (10 ^ k) 10, Nat.mul_assoc]
  have hne : r + 10 ^ (k + 1) * M ≠ 0 := by
    rcases h with h | h
    · omega
    · have := Nat.mul_pos (Nat.pow_pos (n := k + 1) (show 0 < 10 by omega)) h
      omega
  rw [dg_succ (by omega) hne, e]
  generalize 10 ^ k * M = z
  congr 1
  · omega
  · congr 1; omega
end Go.Proofs.Bn
namespace Go.Proofs.YtbacamboknmppaaDoor
open Go Go.RowKit Go.Proofs.Rg Go.Proofs.Hp Go.Proofs.Bn
set_option linter.unusedVariables false
/-- the digits' signs -/
def chs (L : List Nat) : List Nat := L.map (48 + ·)
def textB (neg : Bool) (ds : List Nat) : List Nat :=
  if RightB neg ds = false then [] else if ds.length = 0 then [48] else (chs (dg 10 (val 4294967296 ds)) ++ if neg then [45] else []).reverse
def strB (l : List Nat) : ByteArray := strOfNums (l.map fun (n : Nat) => (n : Int))
def slen : Value → Nat
  | .slice _ n _ => n
  | _ => 0
/-- the state of Text's outer loop -/
structure TextIn (w wl : World) (V : Nat) (x3 x4 : Value) (L ms : List Nat) (neg : Bool) (mb : Value) : Prop where
  out : wl.ownsRow (w.heap.size + 1) 5 1 x3 L.length (u8s (chs L))
  rd : Reads wl x4 ms.length 1 (u32s ms)
  dig : Dig 4294967296 ms
  can : Canon ms
  len : ms.length ≤ 100
  all : L ++ dg 10 (val 4294967296 ms) = dg 10 V
  apart : ∀ g, x3.ownBlock = some g → x4.ownBlock ≠ some g
  fr : Fr [] w wl
  blk : wl.heap[w.heap.size]? = some (.cells #[.bool neg, mb] 24 (0, 0))
theorem reads_trim {w : World} {os : List Nat} {a : Option Addr} {c : Nat} (hv : Reads w (.slice a os.length c) os.length 1 (u32s os)) (hD : Dig 4294967296 os) :
    Reads w (.slice a (dg 4294967296 (val 4294967296 os)).length c) (dg 4294967296 (val 4294967296 os)).length 1 (u32s (dg 4294967296 (val 4294967296 os))) ∧ (dg 4294967296 (val 4294967296 os)).length ≤ os.length := by
  obtain ⟨k, hk, hkt⟩ := trimL_prefix (by omega : 2 ≤ 4294967296) os.length rfl hD
  have hkl : (trimL 4294967296 os).length = k := by rw [hkt, List.length_take, Nat.min_eq_left hk]
  have hr := Reads.take hv hk
  have hu : (u32s os).take k = u32s (dg 4294967296 (val 4294967296 os)) := by rw [u32s, u32s, ← List.map_take, ← hkt]; rfl
  rw [hu] at hr
  have e : (dg 4294967296 (val 4294967296 os)).length = k := hkl
  rw [e]
  exact ⟨hr, hk⟩
theorem chs_snoc (L : List Nat) (d : Nat) : u8s (chs L) ++ [.int .u8 (48 + (d : Int))] = u8s (chs (L ++ [d])) := by simp [u8s, chs]
theorem run_conv {w : World} {base n g c : Nat} {bs : List Nat} (ho : w.ownsRow base 5 1 (.slice (some ⟨g, 0, none⟩) n c) n (u8s bs)) : (convert 69 9 (.slice (some ⟨g, 0, none⟩) n c)).run Tryd.prog w = .ok (.string (strB bs)) w := by
  have hl : bs.length = n := by have := ho.1; rw [u8s_length] at this; omega
  refine run_convert_bytes_arg w 69 5 Tryd.underlying69 Tryd.underlying5 g 0 n c _ (by rw [List.length_map]; exact hl) (fun i hi => ?_) 9 Tryd.underlying9
  rw [Nat.zero_add]
  refine owns_cell ho rfl ?_
  rw [u8s, List.getElem?_map, List.getD_eq_getElem?_getD, List.getElem?_map, List.getElem?_eq_getElem (by omega)]
  rfl
set_option maxHeartbeats 8000000 in
theorem dg_len_big {V n k : Nat} (hn : n ≤ k) (h : V < 4294967296 ^ n) : (dg 10 V).length ≤ 10 * k := by
  rw [dg_length_le (by omega)]
  have h2 : 4294967296 ^ n ≤ 4294967296 ^ k := Nat.pow_le_pow_right (by omega) hn
  have h3 : 4294967296 ^ k ≤ (10 ^ 10) ^ k := Nat.pow_le_pow_left (by omega) k
  rw [← Nat.pow_mul] at h3
  exact Nat.lt_of_lt_of_le h (Nat.le_trans h2 h3)
set_option maxRecDepth 100000 in
theorem Text_calls {w : World} {neg : Bool} {ds : List Nat} {a : Option Addr} {c : Nat} (hv : Reads w (.slice a ds.length c) ds.length 1 (u32s ds)) (hD : Dig 4294967296 ds) (hl : ds.length ≤ 10000) :
    Calls Tryd.prog 30 #[.agg #[.bool neg, .slice a ds.length c]] w fun e w' => e = .returned (.string (strB (textB neg ds))) ∧ Fr [] w w' := by
  have hra := fun w1 (hf : Fr [] w w1) => Right_calls (neg := neg) (hv.fr hf) (by omega)
  obtain ⟨r, hS⟩ : ∃ r, r = textB neg ds := ⟨_, rfl⟩
  rw [← hS]
  unfold textB at hS
  have Hv := Lib.hid hv
  have HDd := Lib.hid hD
  clear hv hD
  cases hR1 : RightB neg ds with
  | false =>
    rw [hR1] at hS hra
    simp only [if_true] at hS
    subst hS
    have Hra := Lib.hid hra
    clear hra hR1
    go_enter Tryd.func30, Tryd.ntmps30
    go_wp2_with fail
    refine (Hra.out _ (by (repeat (first | exact Fr.refl _ _ | assumption | apply Fr.drewN | apply Fr.drew | apply Fr.alloc | refine Fr.setCell ?_ (Or.inr (by simp; try omega)) _)))).mono ?_
    rintro e w1 ⟨rfl, hf⟩
    have Hf := Lib.hid (Fr.trans0 (by (repeat (first | exact Fr.refl _ _ | assumption | apply Fr.drewN | apply Fr.drew | apply Fr.alloc | refine Fr.setCell ?_ (Or.inr (by simp; try omega)) _)) : Fr [] w _) hf)
    clear hf
    go_wp2
    go_ret
    exact ⟨rfl, Hf.out⟩
  | true =>
    obtain ⟨cA, lA, nA⟩ := right_canon hR1
    clear nA
    rw [hR1] at hS hra
    simp only [Bool.true_eq_false, if_false] at hS
    have Hra := Lib.hid hra
    have HcA := Lib.hid cA
    clear hra hR1 cA
    by_cases h0 : ds.length = 0
    · rw [if_pos h0] at hS
      subst hS
      have hd : ((ds.length : Int) == 0) = true := by rw [beq_iff_eq]; omega
      rw [h0] at Hra ⊢
      clear h0 hd
      go_enter Tryd.func30, Tryd.ntmps30
      go_wp2_with fail
      refine (Hra.out _ (by (repeat (first | exact Fr.refl _ _ | assumption | apply Fr.drewN | apply Fr.drew | apply Fr.alloc | refine Fr.setCell ?_ (Or.inr (by simp; try omega)) _)))).mono ?_
      rintro e w1 ⟨rfl, hf⟩
      have hb_ := (hf.block (w.heap.size) (by first | (simp; done) | (simp; omega)) (by simp)).trans (show _ = some (.cells #[.bool neg, .slice a 0 c] 24 (0, 0)) by (repeat (first | rw [if_pos (by omega)] | rw [if_neg (by omega)] | rw [hp_drew] | rw [hp_drewN] | rw [hp_alloc_size] | rw [hp_setCell_size] | rw [hp_alloc] | rw [hp_setCell] | rw [Option.map_some] | rw [upd_cells] | rw [List.set_cons_zero] | rw [List.set_cons_succ] | rfl)))
      have b0 := heap_eq_cell hb_ 0
      have b1 := heap_eq_cell hb_ 1
      have bl := lt_of_block hb_
      have Hb := Lib.hid hb_
      clear hb_
      have Hf := Lib.hid (Fr.trans0 (by (repeat (first | exact Fr.refl _ _ | assumption | apply Fr.drewN | apply Fr.drew | apply Fr.alloc | refine Fr.setCell ?_ (Or.inr (by simp; try omega)) _)) : Fr [] w _) hf)
      clear hf
      go_wp2
      go_ret
      exact ⟨rfl, Hf.out⟩
    · rw [if_neg h0] at hS
      have hd : ((ds.length : Int) == 0) = false := by rw [beq_eq_false_iff_ne]; omega
      obtain ⟨V, hV⟩ : ∃ V, val 4294967296 ds = V := ⟨_, rfl⟩
      rw [hV] at hS
      have HS := Lib.hid hS
      have HV := Lib.hid hV
      clear hS hV
      go_enter Tryd.func30, Tryd.ntmps30
      go_wp2_with fail
      refine (Hra.out _ (by (repeat (first | exact Fr.refl _ _ | assumption | apply Fr.drewN | apply Fr.drew | apply Fr.alloc | refine Fr.setCell ?_ (Or.inr (by simp; try omega)) _)))).mono ?_
      rintro e w1 ⟨rfl, hf⟩
      have hb_ := (hf.block (w.heap.size) (by first | (simp; done) | (simp; omega)) (by simp)).trans (show _ = some (.cells #[.bool neg, .slice a ds.length c] 24 (0, 0)) by (repeat (first | rw [if_pos (by omega)] | rw [if_neg (by omega)] | rw [hp_drew] | rw [hp_drewN] | rw [hp_alloc_size] | rw [hp_setCell_size] | rw [hp_alloc] | rw [hp_setCell] | rw [Option.map_some] | rw [upd_cells] | rw [List.set_cons_zero] | rw [List.set_cons_succ] | rfl)))
      have b0 := heap_eq_cell hb_ 0
      have b1 := heap_eq_cell hb_ 1
      have bl := lt_of_block hb_
      have Hb := Lib.hid hb_
      clear hb_
      have Hf := Lib.hid (Fr.trans0 (by (repeat (first | exact Fr.refl _ _ | assumption | apply Fr.drewN | apply Fr.drew | apply Fr.alloc | refine Fr.setCell ?_ (Or.inr (by simp; try omega)) _)) : Fr [] w _) hf)
      clear hf
      have HdV : Hid ((dg 10 V).length ≤ 1000) := Lib.hid (by
        have h1 := val_lt HDd.out
        rw [HV.out] at h1
        have h2 := dg_len_big (k := 100) (by omega) h1
        omega)
      have hds : 0 < ds.length := by omega
      have HnV : Hid (V ≠ 0) := Lib.hid (by rw [← HV.out]; have := canon_pos (B := 4294967296) (by omega) HcA.out (List.length_pos_iff.1 hds); omega)
      clear h0
      go_wp2_with fail
      go_loopw [3, 4] (fun x3 x4 wl => ∃ (L ms : List Nat), TextIn w wl V x3 x4 L ms neg (.slice a ds.length c)) (fun x3 _ _ => (dg 10 V).length - slen x3)
      case atStart => exact ⟨[], ds, World.ownsRow_nil _ _ _ _, (Hv.out.fr Hf.out), HDd.out, HcA.out, by omega, by rw [HV.out]; rfl, fun g hg => (by cases hg), Hf.out, Hb.out⟩
      case round =>
        obtain ⟨L, ms, hT⟩ := hrel
        have HT := Lib.hid hT
        have hr4 := hT.rd
        obtain ⟨oa, oc, rfl, hoa, ho22⟩ := owns_form hT.out
        obtain ⟨_, ma, mc, rfl, hma⟩ := hr4
        have Hoa := Lib.hid hoa
        clear hT hma b0 b1 bl hoa ho22
        by_cases hm0 : ms.length = 0
        · obtain rfl := List.eq_nil_of_length_eq_zero hm0
          have hL : L = dg 10 V := by have := HT.out.all; rwa [show val 4294967296 [] = 0 from rfl, dg_zero, List.append_nil] at this
          have HL := Lib.hid hL
          have hLp : 0 < L.length := by
            rcases Nat.eq_zero_or_pos L.length with h | h
            · have h2 := List.eq_nil_of_length_eq_zero h
              rw [hL, dg_eq_nil (by omega)] at h2
              exact absurd h2 HnV.out
            · exact h
          obtain ⟨g, rfl⟩ := Hoa.out hLp
          have hb := HT.out.blk
          have b0 := heap_eq_cell hb 0
          have bl := lt_of_block hb
          clear hL hb hm0
          cases neg
          · go_wp2_with fail
            refine (Reverse_calls HT.out.out (by have := HdV.out; rw [HL.out]; omega)).mono ?_
            rintro e w5 ⟨rfl, ho, hf⟩
            have hgw : w.heap.size + 1 ≤ g := owns_ge HT.out.out rfl
            have hrr : r = (chs L).reverse := by rw [HS.out, ← HL.out]; simp
            have hcv := run_conv ho
            rw [← hrr] at hcv
            have Hfin := Lib.hid (HT.out.fr.trans hf (by simp; omega))
            clear ho hrr
            go_wp2
            go_ret
            exact ⟨rfl, Hfin.out⟩
          · go_wp2_with (at_builtin; refine append_u8 (n := L.length) (base := w.heap.size + 1) (xs := u8s (chs L)) (y := 45) rfl rfl rfl ?f1 rfl ?f2 ?f3 ?f4 ?_)
            case f1 => exact owns_of_block HT.out.out fun y hy => heap_alloc_else _ _ _ (owns_lt HT.out.out hy)
            case f2 => (first | (rw [hp_alloc, if_pos rfl]; done) | exact (Array.getElem?_eq_some_iff.1 ((hp_alloc _ _ _).trans (if_pos rfl))).2 | (simp only [hp_drew, hp_drewN]; rw [hp_alloc, if_pos rfl]; done))
            case f3 => have := HdV.out; rw [HL.out]; omega
            case f4 => have := HT.out.fr.size; simp; omega
            intro g9 cap w9 hown1 hW1 hF1 hloc1 hg1
            rw [show Value.int .u8 45 = .int .u8 ((45 : Nat) : Int) from rfl, u8s_snoc] at hown1
            have Hf9 := Lib.hid (fr_append HT.out.fr (owns_base HT.out.out (Nat.le_succ _)) hF1)
            have Hown1 := Lib.hid hown1
            clear hown1 hW1 hF1 hloc1
            go_wp2_with fail
            refine (Reverse_calls Hown1.out (by have := HdV.out; rw [HL.out]; omega)).mono ?_
            rintro e w5 ⟨rfl, ho, hf⟩
            have hgw : w.heap.size + 1 ≤ g9 := owns_ge Hown1.out rfl
            have hrr : r = (chs L ++ [45]).reverse := by rw [HS.out, ← HL.out]; rfl
            have hcv := run_conv ho
            rw [← hrr] at hcv
            have Hfin := Lib.hid (Hf9.out.trans hf (by simp; omega))
            clear ho hrr
            go_wp2
            go_ret
            exact ⟨rfl, Hfin.out⟩
        · have hm1 : 0 < ms.length := by omega
          obtain ⟨M, hM⟩ : ∃ M, val 4294967296 ms / 1000000000 = M := ⟨_, rfl⟩
          obtain ⟨r0, hr0⟩ : ∃ r0, val 4294967296 ms % 1000000000 = r0 := ⟨_, rfl⟩
          have hby := by_calls (w := wr) (n := 1000000000) HT.out.rd HT.out.dig (by have := HT.out.len; omega) (by omega) (by omega)
          unfold ByPost at hby
          rw [hM, hr0] at hby
          have Hby := Lib.hid hby
          have HM := Lib.hid (And.intro hM hr0)
          have hr0l : r0 < 1000000000 := by omega
          clear hM hr0 hby hm0
          go_wp2_with fail
          refine Hby.out.mono ?_
          rintro e w2 ⟨q, os, rfl, ho, hol, hoD, hoV, hf⟩
          rw [← hol] at ho ⊢
          have Hol := Lib.hid hol
          have htr := trimmed_calls (Reads.of_owns ho) hoD (by have := HT.out.len; omega) (Nat.le_refl _)
          obtain ⟨hr1, hr2⟩ := reads_trim (Reads.of_owns ho) hoD
          have e0 : trimL 4294967296 os = dg 4294967296 M := by unfold trimL; rw [hoV]
          rw [hoV] at hr1 hr2
          rw [e0] at htr
          have hqw : wr.heap.size ≤ q := owns_ge ho rfl
          have hql : q < w2.heap.size := owns_lt ho rfl
          obtain ⟨m2, hm2⟩ : ∃ m2, (dg 4294967296 M).length = m2 := ⟨_, rfl⟩
          rw [hm2] at hr1 hr2 htr
          have Htr := Lib.hid htr
          have Hr1 := Lib.hid hr1
          have Hm2 := Lib.hid (And.intro hm2 (show m2 ≤ 100 by have := HT.out.len; omega))
          have Hq := Lib.hid (And.intro hqw hql)
          have Hf2 := Lib.hid (HT.out.fr.trans0 hf)
          have Ho := Lib.hid (owns_of_block HT.out.out fun x hx => hf.block x (owns_lt HT.out.out hx) (by simp))
          have Hblk := Lib.hid ((hf.block _ (lt_of_block HT.out.blk) (by simp)).trans HT.out.blk)
          have Hap : Hid (∀ x, (Value.slice oa L.length oc).ownBlock = some x → (Value.slice (some ⟨q, 0, none⟩) m2 os.length).ownBlock ≠ some x) := Lib.hid (by
            intro x hx hxx
            have h1 := owns_lt HT.out.out hx
            have h2 : q = x := by simpa [Value.ownBlock] using hxx
            omega)
          have hL0 := HT.out.all
          rw [← Nat.mod_add_div (val 4294967296 ms) 1000000000, HM.out.1, HM.out.2] at hL0
          have HL0 := Lib.hid hL0
          have HMp : Hid (0 < r0 ∨ 0 < M) := Lib.hid (by
            have := canon_pos (B := 4294967296) (by omega) HT.out.can (List.length_pos_iff.1 hm1)
            have h := HM.out
            omega)
          clear ho hol hoD hoV hf htr hr1 hr2 e0 hqw hql hm2 hL0
          go_wp2_with fail
          refine Htr.out.mono ?_
          rintro e w3 ⟨rfl, rfl⟩
          obtain ⟨qc, hqc⟩ : ∃ qc, os.length = qc := ⟨_, rfl⟩
          rw [hqc] at Hr1 Hap ⊢
          clear hqc
          go_wp2_with fail
          go_loopw [3, 6, 7] (fun x3 x6 x7 wl => ∃ (L2 : List Nat) (r i : Nat), x6 = .int .u64 r ∧ x7 = .int .i64 i ∧ i ≤ 9 ∧ r < 10 ^ (9 - i) ∧ L2 ++ dg 10 (r + 10 ^ (9 - i) * M) = dg 10 V ∧ L2.length = L.length + i ∧ wl.ownsRow (w.heap.size + 1) 5 1 x3 L2.length (u8s (chs L2)) ∧
            Reads wl (.slice (some ⟨q, 0, none⟩) m2 qc) m2 1 (u32s (dg 4294967296 M)) ∧ (∀ x, x3.ownBlock = some x → (Value.slice (some ⟨q, 0, none⟩) m2 qc).ownBlock ≠ some x) ∧ Fr [] w wl ∧ wl.heap[w.heap.size]? = some (.cells #[.bool neg, .slice a ds.length c] 24 (0, 0)) ∧ q < wl.heap.size) (fun _ _ x7 _ => 9 - (intOf x7).toNat)
          case atStart => exact ⟨L, r0, 0, rfl, rfl, by omega, hr0l, HL0.out, rfl, Ho.out, Hr1.out, Hap.out, Hf2.out, Hblk.out, Hq.out.2⟩
          case round =>
            obtain ⟨L2, r, i, rfl, rfl, hi, hr9, hall, hl2, ho2, hrd2, hap2, hf2, hblk2, hql2⟩ := hrel
            obtain ⟨oa2, oc2, rfl, ho21, ho22⟩ := owns_form ho2
            clear ho21 ho22
            have Hr9 := Lib.hid hr9
            have Hall := Lib.hid hall
            have Hl2 := Lib.hid hl2
            have Ho2 := Lib.hid ho2
            have Hrd2 := Lib.hid hrd2
            have Hap2 := Lib.hid hap2
            have Hf2 := Lib.hid hf2
            have Hblk2 := Lib.hid hblk2
            have Hrl2 := Lib.hid hql2
            have Hb2 : Hid (L2.length ≤ 1000) := Lib.hid (by have h := congrArg List.length hall; rw [List.length_append] at h; have := HdV.out; omega)
            have hrB : r < 1000000000 := Nat.lt_of_lt_of_le hr9 (Nat.pow_le_pow_right (show 0 < 10 by omega) (show 9 - i ≤ 9 by omega))
            clear hr9 hall hl2 ho2 hrd2 hap2 hf2 hblk2 hql2 hr0l hm1
            by_cases hi9 : i < 9
            · rcases Nat.eq_zero_or_pos r with hr0 | hrp
              · rcases Nat.eq_zero_or_pos m2 with hm0 | hmp
                · have hM0 : M = 0 := by have h := Hm2.out.1; rw [hm0] at h; exact (dg_eq_nil (by omega)).1 (List.eq_nil_of_length_eq_zero h)
                  have hfin : L2 ++ dg 10 M = dg 10 V := by have h := Hall.out; rw [hM0, hr0, Nat.mul_zero, Nat.zero_add] at h; rw [hM0]; exact h
                  have hip : 0 < i := by
                    rcases Nat.eq_zero_or_pos i with h | h
                    · subst h
                      have h2 := Hall.out
                      have h3 := Hl2.out
                      rw [hM0, hr0, Nat.mul_zero, Nat.zero_add, dg_zero, List.append_nil] at h2
                      have h4 := HL0.out
                      rw [← h2] at h4
                      have h5 := congrArg List.length h4
                      rw [List.length_append] at h5
                      have h6 : dg 10 (r0 + 1000000000 * M) ≠ [] := by rw [Ne, dg_eq_nil (by omega)]; have := HMp.out; omega
                      have := List.length_pos_iff.2 h6
                      omega
                    · exact h
                  subst hm0
                  have hr0' : decide (0 < r) = false := by simp; omega
                  clear hr0
                  have hlen2 : L.length < L2.length := by have := Hl2.out; omega
                  have hlen3 : L2.length ≤ (dg 10 V).length := by rw [← hfin, List.length_append]; omega
                  have Hfin := Lib.hid hfin
                  have Hlen2 := Lib.hid hlen2
                  have Hlen3 := Lib.hid hlen3
                  clear hfin hlen2 hlen3 hip
                  go_wp2_with fail
                  go_roundw
                  case rel =>
                    exact ⟨L2, dg 4294967296 M, Ho2.out, by rw [Hm2.out.1]; exact Hrd2.out, dg_dig (by omega) M, dg_canon (by omega) M, by rw [Hm2.out.1]; exact Hm2.out.2, by rw [val_dg (by omega)]; exact Hfin.out, Hap2.out, Hf2.out, Hblk2.out⟩
                  case measure =>
                    have h2 := Hlen2.out
                    have h3 := Hlen3.out
                    show (dg 10 V).length - L2.length < (dg 10 V).length - L.length
                    omega
                · have hr0' : decide (0 < r) = false := by simp; omega
                  have Hr00 := Lib.hid hr0
                  clear hr0
                  have hall := Hall.out
                  have hMp : 0 < M := by
                    rcases Nat.eq_zero_or_pos M with h | h
                    · have h2 := Hm2.out.1
                      rw [h, dg_zero] at h2
                      simp at h2
                      omega
                    · exact h
                  have HMp2 := Lib.hid hMp
                  clear hMp
                  have hds := dec_step (r := r) (M := M) (k := 8 - i) (by exact .inr HMp2.out)
                  rw [show 8 - i + 1 = 9 - i by omega] at hds
                  rw [hds] at hall
                  obtain ⟨d, hd⟩ : ∃ d, r % 10 = d := ⟨_, rfl⟩
                  have Er : (((r : Nat) : Int) % 10) = d := by omega
                  have hd10 : d < 10 := by omega
                  rw [hd] at hall
                  have hall2 : (L2 ++ [d]) ++ dg 10 (r / 10 + 10 ^ (9 - (i + 1)) * M) = dg 10 V := by rw [List.append_assoc, show 9 - (i + 1) = 8 - i by omega]; exact hall
                  have hr2 : r / 10 < 10 ^ (9 - (i + 1)) := by
                    have h := Hr9.out
                    rw [show 9 - i = (9 - (i + 1)) + 1 by omega, Nat.pow_succ] at h
                    rw [Nat.div_lt_iff_lt_mul (by omega)]
                    exact h
                  have Hall2 := Lib.hid hall2
                  have Hr2 := Lib.hid hr2
                  clear hds hall hd hall2 hr2
                  go_wp2_with (at_builtin; refine append_u8 (n := L2.length) (base := w.heap.size + 1) (xs := u8s (chs L2)) (y := 48 + (d : Int)) rfl rfl rfl ?e1 rfl ?e2 ?e3 ?e4 ?_)
                  case e1 => exact owns_of_block Ho2.out fun y hy => heap_alloc_else _ _ _ (owns_lt Ho2.out hy)
                  case e2 => (repeat (first | rw [if_pos (by omega)] | rw [if_neg (by omega)] | rw [hp_drew] | rw [hp_drewN] | rw [hp_alloc_size] | rw [hp_setCell_size] | rw [hp_alloc] | rw [hp_setCell] | rw [Option.map_some] | rw [upd_cells] | rw [List.set_cons_zero] | rw [List.set_cons_succ] | rfl))
                  case e3 => have := Hb2.out; omega
                  case e4 => have := Hf2.out.size; simp; omega
                  intro g cap w9 hown1 hW1 hF1 hloc1 hg1
                  rw [chs_snoc] at hown1
                  have Hown1 := Lib.hid hown1
                  have hblk9 := (hW1 w.heap.size (by have := lt_of_block Hblk2.out; (first | omega | (simp only [hp_drew, hp_drewN, hp_alloc_size]; omega) | (simp; omega))) (fun e => by have h := owns_ge Ho2.out e; omega)).trans ((heap_alloc_else _ _ _ (lt_of_block Hblk2.out)).trans Hblk2.out)
                  have hrd9 : Reads w9 (.slice (some ⟨q, 0, none⟩) m2 qc) m2 1 (u32s (dg 4294967296 M)) := by
                    refine Hrd2.out.keep fun x hx hxl => ?_
                    have hne : (Value.slice oa2 L2.length oc2).ownBlock ≠ some x := fun e => Hap2.out x e hx
                    exact (hW1 x (by (first | omega | (simp only [hp_drew, hp_drewN, hp_alloc_size]; omega) | (simp; omega))) hne).trans (heap_alloc_else _ _ _ hxl)
                  have hap9 : ∀ x, (Value.slice (some ⟨g, 0, none⟩) (L2.length + 1) cap).ownBlock = some x → (Value.slice (some ⟨q, 0, none⟩) m2 qc).ownBlock ≠ some x := by
                    intro x hx hxx
                    have e1 : g = x := by simpa [Value.ownBlock] using hx
                    subst e1
                    rcases hloc1 with h | h
                    · exact Hap2.out g h hxx
                    · have h2 : q = g := by simpa [Value.ownBlock] using hxx
                      have h' : g = wr.heap.size + 1 := by first | exact h | (rw [hp_alloc_size] at h; exact h)
                      have := Hrl2.out
                      omega
                  have Hf9 := Lib.hid (fr_append Hf2.out (owns_base Ho2.out (Nat.le_succ _)) hF1)
                  have Hblk9 := Lib.hid hblk9
                  have Hrd9 := Lib.hid hrd9
                  have Hap9 := Lib.hid hap9
                  have Hq9 := Lib.hid (show q < w9.heap.size by have := Hrl2.out; have := hF1.size; rw [hp_alloc_size] at this; omega)
                  clear hown1 hW1 hF1 hloc1 hblk9 hrd9 hap9
                  go_wp2
                  go_roundw
                  case rel => exact ⟨L2 ++ [d], r / 10, i + 1, by go_num, by go_num, by omega, Hr2.out, Hall2.out, by rw [List.length_append, List.length_singleton]; have := Hl2.out; omega, by rw [List.length_append]; exact Hown1.out, Hrd9.out, Hap9.out, Hf9.out, Hblk9.out, Hq9.out⟩
                  case measure => simp [intOf]; omega
              · have hrp' : decide (0 < r) = true := by simpa using hrp
                have hall := Hall.out
                have hds := dec_step (r := r) (M := M) (k := 8 - i) (by omega)
                rw [show 8 - i + 1 = 9 - i by omega] at hds
                rw [hds] at hall
                obtain ⟨d, hd⟩ : ∃ d, r % 10 = d := ⟨_, rfl⟩
                have Er : (((r : Nat) : Int) % 10) = d := by omega
                have hd10 : d < 10 := by omega
                rw [hd] at hall
                have hall2 : (L2 ++ [d]) ++ dg 10 (r / 10 + 10 ^ (9 - (i + 1)) * M) = dg 10 V := by rw [List.append_assoc, show 9 - (i + 1) = 8 - i by omega]; exact hall
                have hr2 : r / 10 < 10 ^ (9 - (i + 1)) := by
                  have h := Hr9.out
                  rw [show 9 - i = (9 - (i + 1)) + 1 by omega, Nat.pow_succ] at h
                  rw [Nat.div_lt_iff_lt_mul (by omega)]
                  exact h
                have Hall2 := Lib.hid hall2
                have Hr2 := Lib.hid hr2
                clear hds hall hd hall2 hr2
                go_wp2_with (at_builtin; refine append_u8 (n := L2.length) (base := w.heap.size + 1) (xs := u8s (chs L2)) (y := 48 + (d : Int)) rfl rfl rfl ?e1 rfl ?e2 ?e3 ?e4 ?_)
                case e1 => exact owns_of_block Ho2.out fun y hy => heap_alloc_else _ _ _ (owns_lt Ho2.out hy)
                case e2 => (repeat (first | rw [if_pos (by omega)] | rw [if_neg (by omega)] | rw [hp_drew] | rw [hp_drewN] | rw [hp_alloc_size] | rw [hp_setCell_size] | rw [hp_alloc] | rw [hp_setCell] | rw [Option.map_some] | rw [upd_cells] | rw [List.set_cons_zero] | rw [List.set_cons_succ] | rfl))
                case e3 => have := Hb2.out; omega
                case e4 => have := Hf2.out.size; simp; omega
                intro g cap w9 hown1 hW1 hF1 hloc1 hg1
                rw [chs_snoc] at hown1
                have Hown1 := Lib.hid hown1
                have hblk9 := (hW1 w.heap.size (by have := lt_of_block Hblk2.out; (first | omega | (simp only [hp_drew, hp_drewN, hp_alloc_size]; omega) | (simp; omega))) (fun e => by have h := owns_ge Ho2.out e; omega)).trans ((heap_alloc_else _ _ _ (lt_of_block Hblk2.out)).trans Hblk2.out)
                have hrd9 : Reads w9 (.slice (some ⟨q, 0, none⟩) m2 qc) m2 1 (u32s (dg 4294967296 M)) := by
                  refine Hrd2.out.keep fun x hx hxl => ?_
                  have hne : (Value.slice oa2 L2.length oc2).ownBlock ≠ some x := fun e => Hap2.out x e hx
                  exact (hW1 x (by (first | omega | (simp only [hp_drew, hp_drewN, hp_alloc_size]; omega) | (simp; omega))) hne).trans (heap_alloc_else _ _ _ hxl)
                have hap9 : ∀ x, (Value.slice (some ⟨g, 0, none⟩) (L2.length + 1) cap).ownBlock = some x → (Value.slice (some ⟨q, 0, none⟩) m2 qc).ownBlock ≠ some x := by
                  intro x hx hxx
                  have e1 : g = x := by simpa [Value.ownBlock] using hx
                  subst e1
                  rcases hloc1 with h | h
                  · exact Hap2.out g h hxx
                  · have h2 : q = g := by simpa [Value.ownBlock] using hxx
                    have h' : g = wr.heap.size + 1 := by first | exact h | (rw [hp_alloc_size] at h; exact h)
                    have := Hrl2.out
                    omega
                have Hf9 := Lib.hid (fr_append Hf2.out (owns_base Ho2.out (Nat.le_succ _)) hF1)
                have Hblk9 := Lib.hid hblk9
                have Hrd9 := Lib.hid hrd9
                have Hap9 := Lib.hid hap9
                have Hq9 := Lib.hid (show q < w9.heap.size by have := Hrl2.out; have := hF1.size; rw [hp_alloc_size] at this; omega)
                clear hown1 hW1 hF1 hloc1 hblk9 hrd9 hap9
                go_wp2
                go_roundw
                case rel => exact ⟨L2 ++ [d], r / 10, i + 1, by go_num, by go_num, by omega, Hr2.out, Hall2.out, by rw [List.length_append, List.length_singleton]; have := Hl2.out; omega, by rw [List.length_append]; exact Hown1.out, Hrd9.out, Hap9.out, Hf9.out, Hblk9.out, Hq9.out⟩
                case measure => simp [intOf]; omega
            · obtain rfl : i = 9 := by omega
              have hr0 : r = 0 := by have h := Hr9.out; omega
              have hfin : L2 ++ dg 10 M = dg 10 V := by have h := Hall.out; rw [hr0, Nat.zero_add, Nat.sub_self, Nat.pow_zero, Nat.one_mul] at h; exact h
              have hip : 0 < 9 := by omega
              clear hi9
              have hlen2 : L.length < L2.length := by have := Hl2.out; omega
              have hlen3 : L2.length ≤ (dg 10 V).length := by rw [← hfin, List.length_append]; omega
              have Hfin := Lib.hid hfin
              have Hlen2 := Lib.hid hlen2
              have Hlen3 := Lib.hid hlen3
              clear hfin hlen2 hlen3 hip
              go_wp2_with fail
              go_roundw
              case rel =>
                exact ⟨L2, dg 4294967296 M, Ho2.out, by rw [Hm2.out.1]; exact Hrd2.out, dg_dig (by omega) M, dg_canon (by omega) M, by rw [Hm2.out.1]; exact Hm2.out.2, by rw [val_dg (by omega)]; exact Hfin.out, Hap2.out, Hf2.out, Hblk2.out⟩
              case measure =>
                have h2 := Hlen2.out
                have h3 := Hlen3.out
                show (dg 10 V).length - L2.length < (dg 10 V).length - L.length
                omega
end Go.Proofs.YtbacamboknmppaaDoor
