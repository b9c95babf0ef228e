/- The reference of big integers: Parse. -/
import Derived.Test.YtbacamboknmppaaDoorKs
import Derived.Test.YtbacamboknmppaaDoorKc
namespace Go.Proofs.Bn
theorem foldl_pow (ts : List UInt8) (v : Nat) : v * 10 ^ ts.length ≤ ts.foldl (fun v c => 10 * v + (c.toNat - 48)) v := by
  induction ts generalizing v with
  | nil => simp
  | cons c ts ih =>
    refine Nat.le_trans ?_ (ih _)
    rw [List.length_cons, Nat.pow_succ, Nat.mul_comm (10 ^ ts.length), ← Nat.mul_assoc]
    exact Nat.mul_le_mul_right _ (show v * 10 ≤ 10 * v + (c.toNat - 48) by omega)
theorem decV_big {c : UInt8} {q : List UInt8} (h1 : 49 ≤ c.toNat) : 10 ^ q.length ≤ decV (c :: q) := by
  have h := foldl_pow q (10 * 0 + (c.toNat - 48))
  refine Nat.le_trans ?_ h
  exact Nat.le_mul_of_pos_left _ (by omega)
end Go.Proofs.Bn
namespace Go.Proofs.YtbacamboknmppaaDoor
open Go Go.RowKit Go.Proofs.Rg Go.Proofs.Hp Go.Proofs.Bn
set_option linter.unusedVariables false
set_option linter.unusedSimpArgs false
set_option maxHeartbeats 8000000 in
set_option maxRecDepth 100000 in
theorem RParse_calls {w : World} {bs : List UInt8} (hs : bs.length ≤ 10000) :
    Calls Tryd.prog 29 #[.string ⟨bs.toArray⟩] w (BigPost w (w.heap.size ≤ ·) (parseS bs)) := by
  have hfm := fun w => Form_calls (w := w) hs
  obtain ⟨r, hS⟩ : ∃ r, r = parseS bs := ⟨_, rfl⟩
  rw [← hS]
  unfold parseS at hS
  cases hbf : badF bs with
  | true =>
    rw [hbf] at hS hfm
    simp only [if_true] at hS
    subst hS
    have Hfm := Lib.hid hfm
    clear hfm hbf hs
    go_enter Tryd.func29, Tryd.ntmps29
    go_wp2_with fail
    refine (Hfm.out _).mono ?_
    rintro e w1 ⟨rfl, rfl⟩
    go_wp2_with fail
    (try simp only [Exit.inBlock, Exit.then])
    refine bodyPost_ret (big_result rfl (b := w.heap.size) (x := .bool false) (y := .slice none 0 0) rfl ?_ rfl) rfl ⟨_, _, ⟨Nat.le_refl _, fun g hg => (by cases hg)⟩, rfl, reads_nil _, ?_⟩
    · (repeat (first | rw [if_pos (by omega)] | rw [if_neg (by omega)] | rw [hp_drew] | rw [hp_drewN] | rw [hp_alloc_size] | rw [hp_setCell_size] | rw [hp_alloc] | rw [hp_setCell] | rw [Option.map_some] | rw [upd_cells] | rw [List.set_cons_zero] | rw [List.set_cons_succ] | rfl))
    · (repeat (first | exact Fr.refl _ _ | assumption | apply Fr.drewN | apply Fr.drew | apply Fr.alloc | refine Fr.setCell ?_ (Or.inr (by simp; try omega)) _))
  | false =>
    rw [hbf] at hS hfm
    simp only [Bool.false_eq_true, if_false] at hS
    have Hfm := Lib.hid hfm
    have hT0 : ∃ c q, cutT bs = c :: q := by
      cases h : cutT bs with
      | nil => rw [badF_none h] at hbf; cases hbf
      | cons c q => exact ⟨c, q, rfl⟩
    obtain ⟨c1, q1, hT1⟩ := hT0
    have hbf2 := hbf
    rw [badF_some hT1, Bool.or_eq_false_iff] at hbf2
    obtain ⟨hb1, hb2⟩ := hbf2
    have hall : ∀ b ∈ cutT bs, digB.contains b = true := by
      rw [hT1]; exact trimS_nil.1 (by simpa using hb2)
    have hbig : 1000 < (cutT bs).length → mkN (cutN bs) (decV (cutT bs)) = (false, [], 6) := by
      intro h
      rw [hT1] at h ⊢
      have hq : q1 ≠ [] := fun e => by rw [e] at h; simp at h
      have hc : c1 ≠ 48 := fun e => by rw [e, decide_eq_true hq] at hb1; simp at hb1
      have hc2 := (isdig c1).1 (hall c1 (by rw [hT1]; simp))
      have hc3 : 49 ≤ c1.toNat := by
        rcases Nat.lt_or_ge c1.toNat 49 with h2 | h2
        · exact absurd (UInt8.toNat_inj.1 (by show c1.toNat = 48; omega)) hc
        · exact h2
      have h1 := decV_big (q := q1) hc3
      have h2 : 4294967296 ^ 64 ≤ decV (c1 :: q1) := by
        refine Nat.le_trans ?_ h1
        exact pow_ten (b := 10) (by omega) (by simp at h; omega)
      unfold mkN
      have h3 : (0 : Nat) < 4294967296 ^ 64 := Nat.pow_pos (by omega)
      rw [if_neg (by omega), if_neg (by omega)]
    have Hbig := Lib.hid hbig
    have Hall0 := Lib.hid hall
    clear hb1 hb2 hall hbig hbf hfm
    cases hbs : bs with
    | nil => rw [hbs, cut_nil] at hT1; cases hT1
    | cons c cs =>
      have hlc : cs.length ≤ 10000 := by rw [hbs] at hs; simp at hs; omega
      have hch : ∀ h, ((⟨(c :: cs).toArray⟩ : ByteArray)[0]'h).toNat = c.toNat := fun h => rfl
      rw [hbs] at Hfm
      by_cases h45 : c = 45
      · subst h45
        have hT : cutT bs = cs := by rw [hbs, (cut_neg cs).1]
        have hN : cutN bs = true := by rw [hbs, (cut_neg cs).2]
        rw [hT] at Hbig Hall0 hS
        rw [hN] at Hbig hS
        have Ext := ext_tail 45 cs
        have h45 : ((45 : UInt8).toNat : Int) = 45 := rfl
        have HS := Lib.hid hS
        clear hT hN hT1 hbs hs hS
        by_cases h1000 : 1000 < cs.length
        · have hr : r = (false, [], 6) := by rw [HS.out]; exact Hbig.out h1000
          have hd : decide ((1000 : Int) < cs.length) = true := by rw [decide_eq_true_eq]; omega
          subst hr
          go_enter Tryd.func29, Tryd.ntmps29
          go_wp2_with fail
          refine (Hfm.out _).mono ?_
          rintro e w1 ⟨rfl, rfl⟩
          go_wp2_with fail
          (try simp only [Exit.inBlock, Exit.then])
          refine bodyPost_ret (big_result rfl (b := w.heap.size) (x := .bool false) (y := .slice none 0 0) rfl ?_ rfl) rfl ⟨_, _, ⟨Nat.le_refl _, fun g hg => (by cases hg)⟩, rfl, reads_nil _, ?_⟩
          · (repeat (first | rw [if_pos (by omega)] | rw [if_neg (by omega)] | rw [hp_drew] | rw [hp_drewN] | rw [hp_alloc_size] | rw [hp_setCell_size] | rw [hp_alloc] | rw [hp_setCell] | rw [Option.map_some] | rw [upd_cells] | rw [List.set_cons_zero] | rw [List.set_cons_succ] | rfl))
          · (repeat (first | exact Fr.refl _ _ | assumption | apply Fr.drewN | apply Fr.drew | apply Fr.alloc | refine Fr.setCell ?_ (Or.inr (by simp; try omega)) _))
        · have hd : decide ((1000 : Int) < cs.length) = false := by rw [decide_eq_false_iff_not]; omega
          go_enter Tryd.func29, Tryd.ntmps29
          go_wp2_with fail
          refine (Hfm.out _).mono ?_
          rintro e w1 ⟨rfl, rfl⟩
          go_wp2_with fail
          obtain ⟨T, hT⟩ : ∃ T, cs = T := ⟨_, rfl⟩
          have Hall := Lib.hid (hT ▸ Hall0.out)
          rw [hT] at HS h1000 ⊢
          clear Ext h45 hch hd hlc hT
          have hb0 : Hid (Fr [] w _) := Lib.hid (by (repeat (first | exact Fr.refl _ _ | assumption | apply Fr.drewN | apply Fr.drew | apply Fr.alloc | refine Fr.setCell ?_ (Or.inr (by simp; try omega)) _)) : Fr [] w (w.alloc (.cells #[.bool false, .slice none 0 0] 24 (0, 0))))
          go_loopw [5, 6] (fun x5 x6 wl => ∃ (i : Nat) (l : List Nat) (la : Option Addr) (lc : Nat), x5 = .slice la l.length lc ∧ x6 = .int .i64 i ∧ i ≤ T.length ∧ Dig 256 l ∧ l.length ≤ i ∧ l.length ≤ lc ∧ val 256 l = decV (T.take i) ∧ Reads wl (.slice la l.length lc) l.length 1 (i64s l) ∧ Fr [] w wl ∧
            wl.heap[w.heap.size]? = some (.cells #[.bool false, .slice none 0 0] 24 (0, 0)) ∧ (∀ g, (Value.slice la l.length lc).ownBlock = some g → w.heap.size < g)) (fun _ x6 _ => T.length - (intOf x6).toNat)
          case atStart => exact ⟨0, [], none, 0, rfl, rfl, by omega, Dig.nil, by simp, by simp, rfl, reads_nil _, by (repeat (first | exact Fr.refl _ _ | assumption | apply Fr.drewN | apply Fr.drew | apply Fr.alloc | refine Fr.setCell ?_ (Or.inr (by simp; try omega)) _)), by (repeat (first | rw [if_pos (by omega)] | rw [if_neg (by omega)] | rw [hp_drew] | rw [hp_drewN] | rw [hp_alloc_size] | rw [hp_setCell_size] | rw [hp_alloc] | rw [hp_setCell] | rw [Option.map_some] | rw [upd_cells] | rw [List.set_cons_zero] | rw [List.set_cons_succ] | rfl)), fun g hg => (by cases hg)⟩
          case round =>
            obtain ⟨i, l, la, lc, rfl, rfl, hi, hD, hli, hlc, hv, hr, hf, hblk, hlo⟩ := hrel
            have HD := Lib.hid hD
            have Hv := Lib.hid hv
            have Hr := Lib.hid hr
            have Hf := Lib.hid hf
            have Hblk := Lib.hid hblk
            have Hlo := Lib.hid hlo
            have hsz := lt_of_block hblk
            clear hD hv hr hf hblk hlo
            by_cases hiT : i < T.length
            · obtain ⟨ch, hch⟩ : ∃ ch, T[i]? = some ch := ⟨_, List.getElem?_eq_getElem hiT⟩
              obtain ⟨hx1, hx2⟩ := (isdig ch).1 (Hall.out ch (List.mem_of_getElem? hch))
              have hdec := decV_take_succ hch
              obtain ⟨x, hx⟩ : ∃ x, ch.toNat = x := ⟨_, rfl⟩
              have hget : ∀ h, ((⟨T.toArray⟩ : ByteArray)[i]'h).toNat = x := fun h => by
                rw [← hx]
                have h2 : T[i]'hiT = ch := by rw [List.getElem?_eq_getElem hiT] at hch; exact Option.some.inj hch
                rw [← h2]; rfl
              rw [hx] at hx1 hx2 hdec
              obtain ⟨d, hd⟩ : ∃ d, d = x - 48 := ⟨_, rfl⟩
              have Ed : ((x : Int) - 48) = (d : Nat) := by omega
              have hd10 : d < 10 := by omega
              rw [← hd, ← Hv.out] at hdec
              have Hdec := Lib.hid hdec
              have hdtrip : i < T.length := hiT
              clear hch hx hdec hd
              obtain ⟨wo, rfl⟩ : ∃ wo : World, wo = wr := ⟨_, rfl⟩
              go_wp2_with fail
              clear hget Ed hx1 hx2
              go_loopw [7, 8, 9] (fun x7 x8 x9 wl => ∃ (k c : Nat) (L : List Nat), x8 = .int .i64 c ∧ x9 = .int .i64 k ∧ k ≤ l.length + 1 ∧ c ≤ 9 ∧ (k = l.length + 1 → c = 0) ∧ Dig 256 L ∧ L.length = k ∧ val 256 L + 256 ^ k * c = 10 * val 256 (l.take k) + d ∧ wl.ownsRow wo.heap.size 3 1 x7 L.length (i64s L) ∧ Fr [] wo wl) (fun _ _ x9 _ => l.length + 1 - (intOf x9).toNat)
              case atStart => exact ⟨0, d, [], rfl, rfl, by omega, by omega, by omega, Dig.nil, rfl, by simp [val], World.ownsRow_nil _ _ _ _, Fr.refl _ _⟩
              case round =>
                obtain ⟨k, c, L, rfl, rfl, hk, hc, hcz, hLD, hLl, hLv, ho, hfo⟩ := hrel
                obtain ⟨oa, oc, rfl, hoa, hon⟩ := owns_form ho
                have HLD := Lib.hid hLD
                have HLl := Lib.hid hLl
                have HLv := Lib.hid hLv
                have Ho := Lib.hid ho
                have Hfo := Lib.hid hfo
                have Hcz := Lib.hid hcz
                clear hoa hon hLD hLl hLv ho hfo hcz
                by_cases hgo : k < l.length ∨ 0 < c
                · obtain ⟨g2, hg2⟩ : ∃ g2, decide ((k : Int) < l.length) = g2 := ⟨_, rfl⟩
                  obtain ⟨g3, hg3⟩ : ∃ g3, decide (0 < c) = g3 := ⟨_, rfl⟩
                  have hg2' : decide (k < l.length) = g2 := by rw [← hg2, decide_eq_decide]; omega
                  have hb3 : g2 = true ∨ (g2 = false ∧ g3 = true) := by
                    rcases Nat.lt_or_ge k l.length with h | h
                    · left; rw [← hg2']; exact decide_eq_true h
                    · right; exact ⟨by rw [← hg2']; exact decide_eq_false (by omega), by rw [← hg3]; exact decide_eq_true (by omega)⟩
                  have hkl : k ≤ l.length := by
                    rcases Nat.lt_or_ge l.length k with h | h
                    · have := Hcz.out (by omega); omega
                    · exact h
                  have hy : l.getD k 0 < 256 := HD.out.getD (by omega) k
                  have Hhy := Lib.hid (show l.length ≤ k → l.getD k 0 = 0 from fun h => by rw [List.getD_eq_getElem?_getD, List.getElem?_eq_none h]; rfl)
                  have Hvt := Lib.hid (val_take_succ 256 l k)
                  have Hdg := Lib.hid (fun w1 (hf1 : Fr [] wo w1) => rdigit_calls (Hr.out.fr hf1) (by omega) k)
                  clear hgo
                  generalize l.getD k 0 = y at *
                  obtain ⟨s, hs⟩ : ∃ s, s = y * 10 + c := ⟨_, rfl⟩
                  have Es : ((10 : Int) * y + c) = (s : Nat) := by omega
                  have hsb : s < 2560 := by omega
                  obtain ⟨b, hb⟩ : ∃ b, s % 256 = b := ⟨_, rfl⟩
                  have Eb : ((s : Int) % 256) = (b : Nat) := by omega
                  have hb256 : b < 256 := by omega
                  have Hst := Lib.hid (mul10_step (B := 256) HLv.out hs)
                  have Hs := Lib.hid (And.intro hs hb)
                  clear hs hb
                  rcases hb3 with rfl | ⟨rfl, rfl⟩
                  all_goals
                    go_wp2_with fail
                    refine (Hdg.out _ Hfo.out).mono ?_
                    rintro e w5 ⟨rfl, rfl⟩
                    go_wp2_with (at_builtin; refine append_i64 (n := L.length) (base := wo.heap.size) (xs := (i64s L)) (y := (b : Int)) rfl rfl rfl ?e1 rfl ?e2 ?e3 ?e4 ?_)
                    case e1 => exact owns_of_block Ho.out fun y hy => heap_alloc_else _ _ _ (owns_lt Ho.out hy)
                    case e2 => first | (first | (rw [hp_alloc, if_pos rfl]; done) | exact (Array.getElem?_eq_some_iff.1 ((hp_alloc _ _ _).trans (if_pos rfl))).2 | (simp only [hp_drew, hp_drewN]; rw [hp_alloc, if_pos rfl]; done)) | (repeat (first | rw [if_pos (by omega)] | rw [if_neg (by omega)] | rw [hp_drew] | rw [hp_drewN] | rw [hp_alloc_size] | rw [hp_setCell_size] | rw [hp_alloc] | rw [hp_setCell] | rw [Option.map_some] | rw [upd_cells] | rw [List.set_cons_zero] | rw [List.set_cons_succ] | rfl))
                    case e3 => (have := HLl.out; omega)
                    case e4 => have := Hfo.out.size; (first | omega | (simp only [hp_drew, hp_drewN, hp_alloc_size]; omega) | (simp; omega))
                    intro g2 cap w9 hown1 hW1 hF1 hloc1 hg1
                    rw [i64s_snoc] at hown1
                    have Hown1 := Lib.hid hown1
                    have Hf9 := Lib.hid (fr_append Hfo.out Ho.out hF1)
                    clear hown1 hW1 hF1 hloc1
                    go_wp2
                    go_roundw
                    case rel =>
                      have hst := Hst.out
                      rw [Hs.out.2] at hst
                      refine ⟨k + 1, s / 256, L ++ [b], by go_num, by go_num, by omega, by omega, fun h => ?_, HLD.out.append (fun z hz => by rw [List.mem_singleton] at hz; omega), by rw [List.length_append, HLl.out]; rfl, ?_, by rw [List.length_append]; exact Hown1.out, Hf9.out⟩
                      · have h1 := Hhy.out (by omega)
                        have := Hs.out
                        omega
                      · rw [val_snoc, HLl.out, Hvt.out, Nat.pow_succ]
                        exact hst
                    case measure => simp [intOf]; omega
                · have hc0 : c = 0 := by omega
                  have hg2 : decide ((k : Int) < l.length) = false := by rw [decide_eq_false_iff_not]; omega
                  have hg2' : decide (k < l.length) = false := by rw [decide_eq_false_iff_not]; omega
                  have hv := HLv.out
                  rw [hc0, Nat.mul_zero, Nat.add_zero, List.take_of_length_le (by omega : l.length ≤ k), ← Hdec.out] at hv
                  have Hv2 := Lib.hid hv
                  subst hc0
                  clear hv hgo
                  go_wp2
                  go_roundw
                  case rel => exact ⟨i + 1, L, oa, oc, rfl, by go_num, by omega, HLD.out, by have := HLl.out; omega, owns_cap Ho.out, Hv2.out, Reads.of_owns Ho.out, Hf.out.trans0 Hfo.out, (Hfo.out.block _ (lt_of_block Hblk.out) (by simp)).trans Hblk.out, fun g hg => by have := owns_ge Ho.out hg; omega⟩
                  case measure => simp [intOf]; omega
            · obtain rfl : i = T.length := by omega
              have hv := Hv.out
              rw [List.take_length] at hv
              have hbg := big_calls (neg := true) Hr.out HD.out (by omega) hlc
              rw [hv, ← HS.out] at hbg
              have Hbg := Lib.hid hbg
              clear hbg hv hiT
              go_wp2_with fail
              refine Hbg.out.mono ?_
              rintro e w4 ⟨ra, rc, hlo, rfl, hr, hf⟩
              have Hc := Hblk
              (try clear c0)
              (try clear c1)
              (try clear c0z)
              (try clear c1z)
              (try clear cl)
              have hc_ := (hf.block _ (lt_of_block Hc.out) (by simp)).trans Hc.out
              clear Hc
              have c0 := heap_eq_cell hc_ 0
              have c0z := heap_eq_frozen hc_ 0
              have c1 := heap_eq_cell hc_ 1
              have c1z := heap_eq_frozen hc_ 1
              have cl := lt_of_block hc_
              have Hc := Lib.hid hc_
              clear hc_
              have Hlo := Lib.hid hlo
              have Hr := Lib.hid hr
              have Hs4 := Lib.hid hsz
              have Hf5 := Lib.hid (Hf.out.trans0 hf)
              clear hlo hr hf
              obtain ⟨r1, r2, r3⟩ := r
              go_wp2
              (try simp only [Exit.inBlock, Exit.then])
              refine bodyPost_ret (big_result rfl (b := w.heap.size) (x := .bool r1) (y := .slice ra r2.length rc) rfl ?_ rfl) rfl ⟨_, _, ⟨Hlo.out.1, fun g hg => (by have := Hlo.out.2 g hg; have := Hs4.out; omega)⟩, rfl, ?_, ?_⟩
              · have h := Hc.out
                (repeat (first | rw [if_pos (by omega)] | rw [if_neg (by omega)] | rw [hp_drew] | rw [hp_drewN] | rw [hp_alloc_size] | rw [hp_setCell_size] | rw [hp_alloc] | rw [hp_setCell] | rw [Option.map_some] | rw [upd_cells] | rw [List.set_cons_zero] | rw [List.set_cons_succ] | rfl))
                rw [h]
                (repeat (first | rw [if_pos (by omega)] | rw [if_neg (by omega)] | rw [hp_drew] | rw [hp_drewN] | rw [hp_alloc_size] | rw [hp_setCell_size] | rw [hp_alloc] | rw [hp_setCell] | rw [Option.map_some] | rw [upd_cells] | rw [List.set_cons_zero] | rw [List.set_cons_succ] | rfl))
              · refine Hr.out.keep fun x hx hl => ?_
                have := Hlo.out.2 x hx
                have := Hs4.out
                rw [setCell_else _ _ _ (by simp; omega), setCell_else _ _ _ (by simp; omega)]
              · exact (Hf5.out.setCell (.inr (by simp)) _).setCell (.inr (by simp)) _
      · have hT : cutT bs = c :: cs := by rw [hbs, (cut_pos cs h45).1]
        have hN : cutN bs = false := by rw [hbs, (cut_pos cs h45).2]
        rw [hT] at Hbig Hall0 hS
        rw [hN] at Hbig hS
        have hc45 : ((c.toNat : Int) == 45) = false := by
          rw [beq_eq_false_iff_ne]
          intro h
          exact h45 (UInt8.toNat_inj.1 (by show c.toNat = 45; omega))
        have HS := Lib.hid hS
        clear hT hN hT1 hbs hs hS h45
        by_cases h1000 : 1000 < (c :: cs).length
        · have hr : r = (false, [], 6) := by rw [HS.out]; exact Hbig.out h1000
          have hd : decide ((1000 : Int) < (cs.length : Int) + 1) = true := by rw [decide_eq_true_eq]; simp at h1000; omega
          subst hr
          clear h1000
          go_enter Tryd.func29, Tryd.ntmps29
          go_wp2_with fail
          refine (Hfm.out _).mono ?_
          rintro e w1 ⟨rfl, rfl⟩
          go_wp2_with fail
          (try simp only [Exit.inBlock, Exit.then])
          refine bodyPost_ret (big_result rfl (b := w.heap.size) (x := .bool false) (y := .slice none 0 0) rfl ?_ rfl) rfl ⟨_, _, ⟨Nat.le_refl _, fun g hg => (by cases hg)⟩, rfl, reads_nil _, ?_⟩
          · (repeat (first | rw [if_pos (by omega)] | rw [if_neg (by omega)] | rw [hp_drew] | rw [hp_drewN] | rw [hp_alloc_size] | rw [hp_setCell_size] | rw [hp_alloc] | rw [hp_setCell] | rw [Option.map_some] | rw [upd_cells] | rw [List.set_cons_zero] | rw [List.set_cons_succ] | rfl))
          · (repeat (first | exact Fr.refl _ _ | assumption | apply Fr.drewN | apply Fr.drew | apply Fr.alloc | refine Fr.setCell ?_ (Or.inr (by simp; try omega)) _))
        · have hd : decide ((1000 : Int) < (cs.length : Int) + 1) = false := by rw [decide_eq_false_iff_not]; simp at h1000; omega
          have H1000 := Lib.hid h1000
          clear h1000
          go_enter Tryd.func29, Tryd.ntmps29
          go_wp2_with fail
          refine (Hfm.out _).mono ?_
          rintro e w1 ⟨rfl, rfl⟩
          go_wp2_with fail
          have h1000 := H1000.out
          obtain ⟨T, hT⟩ : ∃ T, c :: cs = T := ⟨_, rfl⟩
          have Hall := Lib.hid (hT ▸ Hall0.out)
          rw [hT] at HS h1000 ⊢
          clear hch hd hlc hT hc45
          have hb0 : Hid (Fr [] w _) := Lib.hid (by (repeat (first | exact Fr.refl _ _ | assumption | apply Fr.drewN | apply Fr.drew | apply Fr.alloc | refine Fr.setCell ?_ (Or.inr (by simp; try omega)) _)) : Fr [] w (w.alloc (.cells #[.bool false, .slice none 0 0] 24 (0, 0))))
          go_loopw [5, 6] (fun x5 x6 wl => ∃ (i : Nat) (l : List Nat) (la : Option Addr) (lc : Nat), x5 = .slice la l.length lc ∧ x6 = .int .i64 i ∧ i ≤ T.length ∧ Dig 256 l ∧ l.length ≤ i ∧ l.length ≤ lc ∧ val 256 l = decV (T.take i) ∧ Reads wl (.slice la l.length lc) l.length 1 (i64s l) ∧ Fr [] w wl ∧
            wl.heap[w.heap.size]? = some (.cells #[.bool false, .slice none 0 0] 24 (0, 0)) ∧ (∀ g, (Value.slice la l.length lc).ownBlock = some g → w.heap.size < g)) (fun _ x6 _ => T.length - (intOf x6).toNat)
          case atStart => exact ⟨0, [], none, 0, rfl, rfl, by omega, Dig.nil, by simp, by simp, rfl, reads_nil _, by (repeat (first | exact Fr.refl _ _ | assumption | apply Fr.drewN | apply Fr.drew | apply Fr.alloc | refine Fr.setCell ?_ (Or.inr (by simp; try omega)) _)), by (repeat (first | rw [if_pos (by omega)] | rw [if_neg (by omega)] | rw [hp_drew] | rw [hp_drewN] | rw [hp_alloc_size] | rw [hp_setCell_size] | rw [hp_alloc] | rw [hp_setCell] | rw [Option.map_some] | rw [upd_cells] | rw [List.set_cons_zero] | rw [List.set_cons_succ] | rfl)), fun g hg => (by cases hg)⟩
          case round =>
            obtain ⟨i, l, la, lc, rfl, rfl, hi, hD, hli, hlc, hv, hr, hf, hblk, hlo⟩ := hrel
            have HD := Lib.hid hD
            have Hv := Lib.hid hv
            have Hr := Lib.hid hr
            have Hf := Lib.hid hf
            have Hblk := Lib.hid hblk
            have Hlo := Lib.hid hlo
            have hsz := lt_of_block hblk
            clear hD hv hr hf hblk hlo
            by_cases hiT : i < T.length
            · obtain ⟨ch, hch⟩ : ∃ ch, T[i]? = some ch := ⟨_, List.getElem?_eq_getElem hiT⟩
              obtain ⟨hx1, hx2⟩ := (isdig ch).1 (Hall.out ch (List.mem_of_getElem? hch))
              have hdec := decV_take_succ hch
              obtain ⟨x, hx⟩ : ∃ x, ch.toNat = x := ⟨_, rfl⟩
              have hget : ∀ h, ((⟨T.toArray⟩ : ByteArray)[i]'h).toNat = x := fun h => by
                rw [← hx]
                have h2 : T[i]'hiT = ch := by rw [List.getElem?_eq_getElem hiT] at hch; exact Option.some.inj hch
                rw [← h2]; rfl
              rw [hx] at hx1 hx2 hdec
              obtain ⟨d, hd⟩ : ∃ d, d = x - 48 := ⟨_, rfl⟩
              have Ed : ((x : Int) - 48) = (d : Nat) := by omega
              have hd10 : d < 10 := by omega
              rw [← hd, ← Hv.out] at hdec
              have Hdec := Lib.hid hdec
              have hdtrip : i < T.length := hiT
              clear hch hx hdec hd
              obtain ⟨wo, rfl⟩ : ∃ wo : World, wo = wr := ⟨_, rfl⟩
              go_wp2_with fail
              clear hget Ed hx1 hx2
              go_loopw [7, 8, 9] (fun x7 x8 x9 wl => ∃ (k c : Nat) (L : List Nat), x8 = .int .i64 c ∧ x9 = .int .i64 k ∧ k ≤ l.length + 1 ∧ c ≤ 9 ∧ (k = l.length + 1 → c = 0) ∧ Dig 256 L ∧ L.length = k ∧ val 256 L + 256 ^ k * c = 10 * val 256 (l.take k) + d ∧ wl.ownsRow wo.heap.size 3 1 x7 L.length (i64s L) ∧ Fr [] wo wl) (fun _ _ x9 _ => l.length + 1 - (intOf x9).toNat)
              case atStart => exact ⟨0, d, [], rfl, rfl, by omega, by omega, by omega, Dig.nil, rfl, by simp [val], World.ownsRow_nil _ _ _ _, Fr.refl _ _⟩
              case round =>
                obtain ⟨k, c, L, rfl, rfl, hk, hc, hcz, hLD, hLl, hLv, ho, hfo⟩ := hrel
                obtain ⟨oa, oc, rfl, hoa, hon⟩ := owns_form ho
                have HLD := Lib.hid hLD
                have HLl := Lib.hid hLl
                have HLv := Lib.hid hLv
                have Ho := Lib.hid ho
                have Hfo := Lib.hid hfo
                have Hcz := Lib.hid hcz
                clear hoa hon hLD hLl hLv ho hfo hcz
                by_cases hgo : k < l.length ∨ 0 < c
                · obtain ⟨g2, hg2⟩ : ∃ g2, decide ((k : Int) < l.length) = g2 := ⟨_, rfl⟩
                  obtain ⟨g3, hg3⟩ : ∃ g3, decide (0 < c) = g3 := ⟨_, rfl⟩
                  have hg2' : decide (k < l.length) = g2 := by rw [← hg2, decide_eq_decide]; omega
                  have hb3 : g2 = true ∨ (g2 = false ∧ g3 = true) := by
                    rcases Nat.lt_or_ge k l.length with h | h
                    · left; rw [← hg2']; exact decide_eq_true h
                    · right; exact ⟨by rw [← hg2']; exact decide_eq_false (by omega), by rw [← hg3]; exact decide_eq_true (by omega)⟩
                  have hkl : k ≤ l.length := by
                    rcases Nat.lt_or_ge l.length k with h | h
                    · have := Hcz.out (by omega); omega
                    · exact h
                  have hy : l.getD k 0 < 256 := HD.out.getD (by omega) k
                  have Hhy := Lib.hid (show l.length ≤ k → l.getD k 0 = 0 from fun h => by rw [List.getD_eq_getElem?_getD, List.getElem?_eq_none h]; rfl)
                  have Hvt := Lib.hid (val_take_succ 256 l k)
                  have Hdg := Lib.hid (fun w1 (hf1 : Fr [] wo w1) => rdigit_calls (Hr.out.fr hf1) (by omega) k)
                  clear hgo
                  generalize l.getD k 0 = y at *
                  obtain ⟨s, hs⟩ : ∃ s, s = y * 10 + c := ⟨_, rfl⟩
                  have Es : ((10 : Int) * y + c) = (s : Nat) := by omega
                  have hsb : s < 2560 := by omega
                  obtain ⟨b, hb⟩ : ∃ b, s % 256 = b := ⟨_, rfl⟩
                  have Eb : ((s : Int) % 256) = (b : Nat) := by omega
                  have hb256 : b < 256 := by omega
                  have Hst := Lib.hid (mul10_step (B := 256) HLv.out hs)
                  have Hs := Lib.hid (And.intro hs hb)
                  clear hs hb
                  rcases hb3 with rfl | ⟨rfl, rfl⟩
                  all_goals
                    go_wp2_with fail
                    refine (Hdg.out _ Hfo.out).mono ?_
                    rintro e w5 ⟨rfl, rfl⟩
                    go_wp2_with (at_builtin; refine append_i64 (n := L.length) (base := wo.heap.size) (xs := (i64s L)) (y := (b : Int)) rfl rfl rfl ?e1 rfl ?e2 ?e3 ?e4 ?_)
                    case e1 => exact owns_of_block Ho.out fun y hy => heap_alloc_else _ _ _ (owns_lt Ho.out hy)
                    case e2 => first | (first | (rw [hp_alloc, if_pos rfl]; done) | exact (Array.getElem?_eq_some_iff.1 ((hp_alloc _ _ _).trans (if_pos rfl))).2 | (simp only [hp_drew, hp_drewN]; rw [hp_alloc, if_pos rfl]; done)) | (repeat (first | rw [if_pos (by omega)] | rw [if_neg (by omega)] | rw [hp_drew] | rw [hp_drewN] | rw [hp_alloc_size] | rw [hp_setCell_size] | rw [hp_alloc] | rw [hp_setCell] | rw [Option.map_some] | rw [upd_cells] | rw [List.set_cons_zero] | rw [List.set_cons_succ] | rfl))
                    case e3 => (have := HLl.out; omega)
                    case e4 => have := Hfo.out.size; (first | omega | (simp only [hp_drew, hp_drewN, hp_alloc_size]; omega) | (simp; omega))
                    intro g2 cap w9 hown1 hW1 hF1 hloc1 hg1
                    rw [i64s_snoc] at hown1
                    have Hown1 := Lib.hid hown1
                    have Hf9 := Lib.hid (fr_append Hfo.out Ho.out hF1)
                    clear hown1 hW1 hF1 hloc1
                    go_wp2
                    go_roundw
                    case rel =>
                      have hst := Hst.out
                      rw [Hs.out.2] at hst
                      refine ⟨k + 1, s / 256, L ++ [b], by go_num, by go_num, by omega, by omega, fun h => ?_, HLD.out.append (fun z hz => by rw [List.mem_singleton] at hz; omega), by rw [List.length_append, HLl.out]; rfl, ?_, by rw [List.length_append]; exact Hown1.out, Hf9.out⟩
                      · have h1 := Hhy.out (by omega)
                        have := Hs.out
                        omega
                      · rw [val_snoc, HLl.out, Hvt.out, Nat.pow_succ]
                        exact hst
                    case measure => simp [intOf]; omega
                · have hc0 : c = 0 := by omega
                  have hg2 : decide ((k : Int) < l.length) = false := by rw [decide_eq_false_iff_not]; omega
                  have hg2' : decide (k < l.length) = false := by rw [decide_eq_false_iff_not]; omega
                  have hv := HLv.out
                  rw [hc0, Nat.mul_zero, Nat.add_zero, List.take_of_length_le (by omega : l.length ≤ k), ← Hdec.out] at hv
                  have Hv2 := Lib.hid hv
                  subst hc0
                  clear hv hgo
                  go_wp2
                  go_roundw
                  case rel => exact ⟨i + 1, L, oa, oc, rfl, by go_num, by omega, HLD.out, by have := HLl.out; omega, owns_cap Ho.out, Hv2.out, Reads.of_owns Ho.out, Hf.out.trans0 Hfo.out, (Hfo.out.block _ (lt_of_block Hblk.out) (by simp)).trans Hblk.out, fun g hg => by have := owns_ge Ho.out hg; omega⟩
                  case measure => simp [intOf]; omega
            · obtain rfl : i = T.length := by omega
              have hv := Hv.out
              rw [List.take_length] at hv
              have hbg := big_calls (neg := false) Hr.out HD.out (by omega) hlc
              rw [hv, ← HS.out] at hbg
              have Hbg := Lib.hid hbg
              clear hbg hv hiT
              go_wp2_with fail
              refine Hbg.out.mono ?_
              rintro e w4 ⟨ra, rc, hlo, rfl, hr, hf⟩
              have Hc := Hblk
              (try clear c0)
              (try clear c1)
              (try clear c0z)
              (try clear c1z)
              (try clear cl)
              have hc_ := (hf.block _ (lt_of_block Hc.out) (by simp)).trans Hc.out
              clear Hc
              have c0 := heap_eq_cell hc_ 0
              have c0z := heap_eq_frozen hc_ 0
              have c1 := heap_eq_cell hc_ 1
              have c1z := heap_eq_frozen hc_ 1
              have cl := lt_of_block hc_
              have Hc := Lib.hid hc_
              clear hc_
              have Hlo := Lib.hid hlo
              have Hr := Lib.hid hr
              have Hs4 := Lib.hid hsz
              have Hf5 := Lib.hid (Hf.out.trans0 hf)
              clear hlo hr hf
              obtain ⟨r1, r2, r3⟩ := r
              go_wp2
              (try simp only [Exit.inBlock, Exit.then])
              refine bodyPost_ret (big_result rfl (b := w.heap.size) (x := .bool r1) (y := .slice ra r2.length rc) rfl ?_ rfl) rfl ⟨_, _, ⟨Hlo.out.1, fun g hg => (by have := Hlo.out.2 g hg; have := Hs4.out; omega)⟩, rfl, ?_, ?_⟩
              · have h := Hc.out
                (repeat (first | rw [if_pos (by omega)] | rw [if_neg (by omega)] | rw [hp_drew] | rw [hp_drewN] | rw [hp_alloc_size] | rw [hp_setCell_size] | rw [hp_alloc] | rw [hp_setCell] | rw [Option.map_some] | rw [upd_cells] | rw [List.set_cons_zero] | rw [List.set_cons_succ] | rfl))
                rw [h]
                (repeat (first | rw [if_pos (by omega)] | rw [if_neg (by omega)] | rw [hp_drew] | rw [hp_drewN] | rw [hp_alloc_size] | rw [hp_setCell_size] | rw [hp_alloc] | rw [hp_setCell] | rw [Option.map_some] | rw [upd_cells] | rw [List.set_cons_zero] | rw [List.set_cons_succ] | rfl))
              · refine Hr.out.keep fun x hx hl => ?_
                have := Hlo.out.2 x hx
                have := Hs4.out
                rw [setCell_else _ _ _ (by simp; omega), setCell_else _ _ _ (by simp; omega)]
              · exact (Hf5.out.setCell (.inr (by simp)) _).setCell (.inr (by simp)) _
end Go.Proofs.YtbacamboknmppaaDoor
