/- Big integers: Parse. -/
import Derived.Test.YtbacamboknmppaaDoorJo
import Derived.Test.YtbacamboknmppaaDoorNd
namespace Go.Proofs.YtbacamboknmppaaDoor
open Go Go.RowKit Go.Proofs.Rg Go.Proofs.Hp Go.Proofs.Bn
set_option linter.unusedVariables false
set_option linter.unusedSimpArgs false
def cutT (bs : List UInt8) : List UInt8 := Lib.trimPrefix bs [45]
def cutN (bs : List UInt8) : Bool := Lib.hasPrefix bs [45]
def badF (bs : List UInt8) : Bool := match cutT bs with
  | [] => true
  | c :: r => (c == 48 && (decide (r ≠ []) || cutN bs)) || decide (Lib.trimS (c :: r) digB ≠ [])
def parseS (bs : List UInt8) : Bool × List Nat × Int := if badF bs then (false, [], 15) else mkN (cutN bs) (decV (cutT bs))
theorem info_u32' : (Tryd.prog.info? 45).map (fun i => (i.zero, i.size, i.bytes)) = some (some (.int .u32 0), 1, 4) := by kernel_rfl
theorem u32s_snoc (l : List Nat) (d : Nat) : u32s l ++ [.int .u32 d] = u32s (l ++ [d]) := by simp [u32s]
theorem below_fr {w w' : World} (h : Below w.heap.size w w') : Fr [] w w' := ⟨h.os, h.tape, h.output, h.size, fun b hb _ => h.block b hb⟩
/-- append of one digit -/
theorem append_u32 {ops : Array Oper} {rest : List Oper} {o : Oper} {a : Act} {W : World} {Q : Exit → Act → World → Prop} (hgd : o.guard = none) {s x : Operand} (ho : o.op = .call { callee := .builtin .append, args := #[s, x], argTypes := #[22, 22] })
    {base : Nat} {v : Value} {n : Nat} {xs : List Value} (hs : a.eval s = v) (hown : W.ownsRow base 45 1 v n xs) {nb c : Nat} {y : Int} (hx : a.eval x = .slice (some ⟨nb, 0, none⟩) 1 c)
    (hnb : W.heap[nb]? = some (.cells #[.int .u32 y] 45 (0, 0))) (hn : n ≤ 4000000000000) (hbase : base ≤ W.heap.size)
    (h : ∀ g cap w', w'.ownsRow base 45 1 (.slice (some ⟨g, 0, none⟩) (n + 1) cap) (n + 1) (xs ++ [.int .u32 y]) → (∀ b, b < W.heap.size → v.ownBlock ≠ some b → w'.heap[b]? = W.heap[b]?) → Fr v.ownBlock.toList W w' → (v.ownBlock = some g ∨ g = W.heap.size) → g < w'.heap.size →
      wpList Tryd.prog ops Q rest (a.put o.dst (.slice (some ⟨g, 0, none⟩) (n + 1) cap)) w') : wpList Tryd.prog ops Q (o :: rest) a W :=
  append_new hgd ho Tryd.underlying22 info_u32' rfl (by decide) hs hown hx (news := [.int .u32 y]) hnb rfl (by intro u hu; simp at hu; subst hu; rfl) (by unfold maxLen; omega) (by omega) hbase h
theorem ba_size (l : List UInt8) : (⟨l.toArray⟩ : ByteArray).size = l.length := rfl
set_option maxHeartbeats 8000000 in
set_option maxRecDepth 100000 in
theorem Parse_calls {w : World} {s : ByteArray} (hs : s.size ≤ 10000) :
    Calls Tryd.prog 28 #[.string s] w (BigPost w (w.heap.size ≤ ·) (parseS s.data.toList)) := by
  have hcp := fun w1 => Tryd.strings_CutPrefix s ⟨#[45]⟩ w1
  have e45 : (⟨#[45]⟩ : ByteArray).data.toList = [45] := rfl
  rw [e45] at hcp
  obtain ⟨r, hS⟩ : ∃ r, r = parseS s.data.toList := ⟨_, rfl⟩
  rw [← hS]
  unfold parseS badF at hS
  have hlt : (cutT s.data.toList).length ≤ 10000 := by
    have h : (cutT s.data.toList).length ≤ s.data.toList.length := by unfold cutT Lib.trimPrefix; split <;> simp
    have h2 : s.data.toList.length = s.size := by simp
    omega
  obtain ⟨ts, hts⟩ : ∃ ts, cutT s.data.toList = ts := ⟨_, rfl⟩
  obtain ⟨neg, hneg⟩ : ∃ neg, cutN s.data.toList = neg := ⟨_, rfl⟩
  rw [hts, hneg] at hS
  rw [hts] at hlt
  have e1 : Lib.trimPrefix s.data.toList [45] = ts := hts
  have e2 : Lib.hasPrefix s.data.toList [45] = neg := hneg
  rw [e1, e2] at hcp
  have Hcp := Lib.hid hcp
  clear hcp e45 hts hneg e1 e2
  rcases ts with _ | ⟨c, ts⟩
  · simp only [if_true] at hS
    subst hS
    go_enter Tryd.func28, Tryd.ntmps28
    go_wp2_with fail
    refine (Hcp.out _).mono ?_
    rintro e w1 ⟨rfl, rfl⟩
    go_wp2_with fail
    (try simp only [Exit.inBlock, Exit.then])
    refine bodyPost_ret (big_result rfl (b := w.heap.size) (x := .bool false) (y := .slice none 0 0) rfl ?_ rfl) rfl ⟨_, _, ⟨Nat.le_refl _, fun g hg => (by cases hg)⟩, rfl, reads_nil _, ?_⟩
    · (repeat (first | rw [if_pos (by omega)] | rw [if_neg (by omega)] | rw [hp_drew] | rw [hp_drewN] | rw [hp_alloc_size] | rw [hp_setCell_size] | rw [hp_alloc] | rw [hp_setCell] | rw [Option.map_some] | rw [upd_cells] | rw [List.set_cons_zero] | rw [List.set_cons_succ] | rfl))
    · (repeat (first | exact Fr.refl _ _ | assumption | apply Fr.drewN | apply Fr.drew | apply Fr.alloc | refine Fr.setCell ?_ (Or.inr (by simp; try omega)) _))
  · obtain ⟨x, hx⟩ : ∃ x, c.toNat = x := ⟨_, rfl⟩
    have hch : ∀ h, ((⟨(c :: ts).toArray⟩ : ByteArray)[0]'h).toNat = x := fun h => hx
    obtain ⟨z, hz⟩ : ∃ z, (c == 48) = z := ⟨_, rfl⟩
    have hz2 : ((x : Int) == 48) = z := by
      rw [← hz, ← hx, Bool.eq_iff_iff, beq_iff_eq, beq_iff_eq]
      constructor
      · intro h; exact UInt8.toNat_inj.1 (by show c.toNat = 48; omega)
      · rintro rfl; rfl
    obtain ⟨lg, hlg⟩ : ∃ lg, decide (ts ≠ []) = lg := ⟨_, rfl⟩
    have hlg2 : decide ((1 : Int) < (ts.length : Int) + 1) = lg := by
      rw [← hlg, decide_eq_decide]
      cases ts <;> simp
      omega
    have htr := fun w1 => Tryd.strings_Trim ⟨(c :: ts).toArray⟩ ⟨#[48, 49, 50, 51, 52, 53, 54, 55, 56, 57]⟩ w1 (by rw [ba_size]; omega) (by decide) (ascii_of_all (by decide))
    have e3 : (⟨#[48, 49, 50, 51, 52, 53, 54, 55, 56, 57]⟩ : ByteArray).data.toList = digB := rfl
    have e4 : (⟨(c :: ts).toArray⟩ : ByteArray).data.toList = c :: ts := rfl
    rw [e3, e4] at htr
    simp only [hz, hlg] at hS
    obtain ⟨tm, htm⟩ : ∃ tm, Lib.trimS (c :: ts) digB = tm := ⟨_, rfl⟩
    rw [htm] at htr hS
    have Htr := Lib.hid htr
    have Htm := Lib.hid htm
    clear htr htm e3 e4 hlg hz hx
    cases hb : (z && (lg || neg)) with
    | true =>
      rw [hb] at hS
      simp only [Bool.true_or, if_true] at hS
      subst hS
      obtain ⟨rfl, hb2⟩ := (Bool.and_eq_true _ _).mp hb
      clear hb
      cases lg <;> cases neg <;> simp only [Bool.or_self, Bool.or_true, Bool.true_or, Bool.false_eq_true] at hb2
      all_goals
        go_enter Tryd.func28, Tryd.ntmps28
        go_wp2_with fail
        refine (Hcp.out _).mono ?_
        rintro e w1 ⟨rfl, rfl⟩
        go_wp2_with fail
        (try simp only [Exit.inBlock, Exit.then])
        refine bodyPost_ret (big_result rfl (b := w.heap.size) (x := .bool false) (y := .slice none 0 0) rfl ?_ rfl) rfl ⟨_, _, ⟨Nat.le_refl _, fun g hg => (by cases hg)⟩, rfl, reads_nil _, ?_⟩
        · (repeat (first | rw [if_pos (by omega)] | rw [if_neg (by omega)] | rw [hp_drew] | rw [hp_drewN] | rw [hp_alloc_size] | rw [hp_setCell_size] | rw [hp_alloc] | rw [hp_setCell] | rw [Option.map_some] | rw [upd_cells] | rw [List.set_cons_zero] | rw [List.set_cons_succ] | rfl))
        · (repeat (first | exact Fr.refl _ _ | assumption | apply Fr.drewN | apply Fr.drew | apply Fr.alloc | refine Fr.setCell ?_ (Or.inr (by simp; try omega)) _))
    | false =>
      rw [hb] at hS
      simp only [Bool.false_or] at hS
      cases z
      · clear hb
        go_enter Tryd.func28, Tryd.ntmps28
        go_wp2_with fail
        refine (Hcp.out _).mono ?_
        rintro e w1 ⟨rfl, rfl⟩
        go_wp2_with fail
        refine (Htr.out _).mono ?_
        rintro e w2 ⟨rfl, hbl⟩
        have hf := below_fr hbl
        have hb_ := (hf.block (w.heap.size) (by first | (simp; done) | (simp; omega)) (by simp)).trans (show _ = some (.cells #[.bool false, .slice none 0 0] 24 (0, 0)) by (repeat (first | rw [if_pos (by omega)] | rw [if_neg (by omega)] | rw [hp_drew] | rw [hp_drewN] | rw [hp_alloc_size] | rw [hp_setCell_size] | rw [hp_alloc] | rw [hp_setCell] | rw [Option.map_some] | rw [upd_cells] | rw [List.set_cons_zero] | rw [List.set_cons_succ] | rfl)))
        have b0 := heap_eq_cell hb_ 0
        have b0z := heap_eq_frozen hb_ 0
        have b1 := heap_eq_cell hb_ 1
        have b1z := heap_eq_frozen hb_ 1
        have bl := lt_of_block hb_
        have Hb := Lib.hid hb_
        clear hb_
        have Hf := Lib.hid (Fr.trans0 (by (repeat (first | exact Fr.refl _ _ | assumption | apply Fr.drewN | apply Fr.drew | apply Fr.alloc | refine Fr.setCell ?_ (Or.inr (by simp; try omega)) _)) : Fr [] w _) hf)
        clear hf hbl
        rcases tm with _ | ⟨d, tm⟩
        rotate_left
        · simp only [ne_eq, reduceCtorEq, not_false_eq_true, decide_true, if_true] at hS
          subst hS
          go_wp2_with fail
          (try simp only [Exit.inBlock, Exit.then])
          refine bodyPost_ret (big_result rfl (b := w.heap.size) (x := .bool false) (y := .slice none 0 0) rfl ?_ rfl) rfl ⟨_, _, ⟨Nat.le_refl _, fun g hg => (by cases hg)⟩, rfl, reads_nil _, ?_⟩
          · (have h := Hb.out; (repeat (first | rw [if_pos (by omega)] | rw [if_neg (by omega)] | rw [hp_drew] | rw [hp_drewN] | rw [hp_alloc_size] | rw [hp_setCell_size] | rw [hp_alloc] | rw [hp_setCell] | rw [Option.map_some] | rw [upd_cells] | rw [List.set_cons_zero] | rw [List.set_cons_succ] | rfl)); rw [h]; (repeat (first | rw [if_pos (by omega)] | rw [if_neg (by omega)] | rw [hp_drew] | rw [hp_drewN] | rw [hp_alloc_size] | rw [hp_setCell_size] | rw [hp_alloc] | rw [hp_setCell] | rw [Option.map_some] | rw [upd_cells] | rw [List.set_cons_zero] | rw [List.set_cons_succ] | rfl)))
          · exact (Hf.out.setCell (.inr (by simp)) _).setCell (.inr (by simp)) _
        · simp only [ne_eq, not_true_eq_false, decide_false, Bool.false_eq_true, if_false] at hS
          have hall := trimS_nil.1 Htm.out
          clear hz2 hlg2 hch Htm Htr Hcp
          obtain ⟨T, hT⟩ : ∃ T, c :: ts = T := ⟨_, rfl⟩
          have hlT : T.length ≤ 10000 := by rw [← hT]; exact hlt
          rw [hT] at hS hall ⊢
          have HS := Lib.hid hS
          have Hall := Lib.hid hall
          clear hS hall hT hlt
          go_wp2_with fail
          go_loopw [6, 39] (fun x6 x39 wl => ∃ (i : Nat) (l : List Nat), x39 = .int .i64 i ∧ i ≤ T.length ∧ Dig 4294967296 l ∧ Canon l ∧ l.length ≤ 64 ∧ val 4294967296 l = decV (T.take i) ∧ wl.ownsRow (w.heap.size + 1) 45 1 x6 l.length (u32s l) ∧ Fr [] w wl ∧
            wl.heap[w.heap.size]? = some (.cells #[.bool false, .slice none 0 0] 24 (0, 0))) (fun _ x39 _ => T.length - (intOf x39).toNat)
          case atStart => exact ⟨0, [], rfl, by omega, Dig.nil, by simp [Canon], by simp, rfl, World.ownsRow_nil _ _ _ _, Hf.out, Hb.out⟩
          case round =>
            obtain ⟨i, l, rfl, hi, hD, hC, hl64, hv, ho, hf, hblk⟩ := hrel
            obtain ⟨oa, oc, rfl, hoa, hon⟩ := owns_form ho
            have Hoa := Lib.hid hoa
            have HD := Lib.hid hD
            have HC := Lib.hid hC
            have Hv := Lib.hid hv
            have Ho := Lib.hid ho
            have Hf := Lib.hid hf
            have Hblk := Lib.hid hblk
            clear hoa hon hD hC hv ho hf hblk
            (try clear b0 b1 bl b0z b1z)
            by_cases hiT : i < T.length
            · obtain ⟨ch, hch⟩ : ∃ ch, T[i]? = some ch := ⟨_, List.getElem?_eq_getElem hiT⟩
              obtain ⟨hx1, hx2⟩ := (isdig ch).1 (Hall.out ch (List.mem_of_getElem? hch))
              have hdec := decV_take_succ hch
              obtain ⟨x, hx⟩ : ∃ x, ch.toNat = x := ⟨_, rfl⟩
              have hget : ∀ h, ((⟨T.toArray⟩ : ByteArray)[i]'h).toNat = x := fun h => by
                rw [← hx]
                have h2 : T[i]'hiT = ch := by rw [List.getElem?_eq_getElem hiT] at hch; exact Option.some.inj hch
                rw [← h2]; rfl
              rw [hx] at hx1 hx2 hdec
              obtain ⟨d, hd⟩ : ∃ d, d = x - 48 := ⟨_, rfl⟩
              have Ed : ((x : Int) - 48) = (d : Nat) := by omega
              have hd10 : d < 10 := by omega
              rw [← hd, ← Hv.out] at hdec
              have Hdec := Lib.hid hdec
              have Hd := Lib.hid hd
              clear hch hx hdec hd
              go_wp2_with fail
              clear hget Ed
              go_loopw [8, 49] (fun x8 x49 wl => ∃ (c k : Nat) (cur : List Nat), x8 = .int .u64 c ∧ x49 = .int .i64 k ∧ k ≤ l.length ∧ c < 10 ∧ cur.length = l.length ∧ Dig 4294967296 cur ∧ cur.drop k = l.drop k ∧ val 4294967296 (cur.take k) + 4294967296 ^ k * c = 10 * val 4294967296 (l.take k) + d ∧
                wl.ownsRow (w.heap.size + 1) 45 1 (.slice oa l.length oc) l.length (u32s cur) ∧ Fr [] w wl ∧ wl.heap[w.heap.size]? = some (.cells #[.bool false, .slice none 0 0] 24 (0, 0))) (fun _ x49 _ => l.length - (intOf x49).toNat)
              case atStart => exact ⟨d, 0, l, rfl, rfl, by omega, hd10, rfl, HD.out, rfl, by simp [val], Ho.out, Hf.out, Hblk.out⟩
              case round =>
                obtain ⟨c2, k, cur, rfl, rfl, hk, hc2, hcl, hcD, hdr, hval, ho2, hf2, hblk2⟩ := hrel
                have Hcl := Lib.hid hcl
                have HcD := Lib.hid hcD
                have Hdr := Lib.hid hdr
                have Hval := Lib.hid hval
                have Ho2 := Lib.hid ho2
                have Hf2 := Lib.hid hf2
                have Hblk2 := Lib.hid hblk2
                clear hcl hcD hdr hval ho2 hf2 hblk2
                by_cases hkl : k < l.length
                · obtain ⟨g, rfl⟩ := Hoa.out (by omega)
                  have e3 := owns_cell Ho2.out rfl (u32s_get (l := cur) (i := k) (by have := Hcl.out; omega))
                  have hfz := owns_frozen Ho2.out rfl k
                  have hgl := owns_lt Ho2.out rfl
                  have hy : cur.getD k 0 < 4294967296 := HcD.out.getD (by omega) k
                  have hgd : cur.getD k 0 = l.getD k 0 := by
                    have h := congrArg (fun q => q.getD 0 0) Hdr.out
                    simpa [List.getD_eq_getElem?_getD, List.getElem?_drop] using h
                  have hset := fun v => owns_set Ho2.out rfl (j := k) (by rw [u32s_length]; have := Hcl.out; omega) (.int .u32 v)
                  have Hset := Lib.hid hset
                  have Hvt := Lib.hid (val_take_succ 4294967296 l k)
                  rw [← hgd] at Hvt
                  clear hset hgd
                  generalize cur.getD k 0 = y at *
                  have Ey : IntKind.u64.wrap (y : Int) = y := IntWalk.u64_in _ (by omega)
                  obtain ⟨v, hv⟩ : ∃ v, v = y * 10 + c2 := ⟨_, rfl⟩
                  have Ev : ((y : Int) * 10 + c2) = (v : Nat) := by omega
                  have hvb : v < 10 * 4294967296 := by omega
                  have Hst := Lib.hid (mul10_step (B := 4294967296) Hval.out hv)
                  have Hvb := Lib.hid hvb
                  clear hv
                  go_wp2
                  go_roundw
                  case rel =>
                    have e1 : ((v % 4294967296 : Nat) : Int) = (v : Int) % 4294967296 := by omega
                    have e2 : ((v / 4294967296 : Nat) : Int) = (v : Int) / 4294967296 := by omega
                    refine ⟨v / 4294967296, k + 1, cur.set k (v % 4294967296), by rw [e2], by go_num, by omega, by have := Hvb.out; omega, by rw [List.length_set]; exact Hcl.out, HcD.out.set (Nat.mod_lt _ (by omega)), ?_, ?_, ?_, ?_, ?_⟩
                    · rw [List.drop_set_of_lt (by omega)]
                      have h := congrArg (List.drop 1) Hdr.out
                      rwa [List.drop_drop, List.drop_drop] at h
                    · rw [Hvt.out, val_take_succ, List.getD_eq_getElem?_getD, List.getElem?_set_self (by have := Hcl.out; omega), List.take_set_of_le (Nat.le_refl k), Nat.pow_succ]
                      exact Hst.out
                    · rw [u32s_set, e1]
                      exact Hset.out _
                    · exact Hf2.out.setCell (.inr (by have : w.heap.size + 1 ≤ g := owns_ge Ho2.out rfl; simp; omega)) _
                    · rw [setCell_else _ _ _ (by have : w.heap.size + 1 ≤ g := owns_ge Ho2.out rfl; simp; omega)]
                      exact Hblk2.out
                  case measure => simp [intOf]; omega
                · obtain rfl : k = l.length := by omega
                  have hval := Hval.out
                  rw [List.take_length, ← Hcl.out, List.take_length, Hcl.out, ← Hdec.out] at hval
                  have Hval2 := Lib.hid hval
                  have hmono := decV_take_le T (i + 1)
                  have Hmono := Lib.hid hmono
                  clear hval hmono
                  rcases Nat.eq_zero_or_pos c2 with hc0 | hcp
                  · have hdc : decide (0 < c2) = false := by simp; omega
                    have hcan : Canon cur := by
                      have h1 := Hval2.out
                      rw [hc0, Nat.mul_zero, Nat.add_zero] at h1
                      rcases Nat.eq_zero_or_pos l.length with h | h
                      · have h2 := Hcl.out
                        rw [h] at h2
                        rw [List.eq_nil_of_length_eq_zero h2]
                        simp [Canon]
                      · refine canon_of_ge HcD.out ?_
                        have h2 := canon_le (B := 4294967296) (by omega) HD.out HC.out (List.length_pos_iff.1 h)
                        rw [h1, Hdec.out, Hcl.out]
                        omega
                    have Hcan := Lib.hid hcan
                    have Hc0 := Lib.hid hc0
                    clear hcan hc0
                    go_wp2
                    go_roundw
                    case rel => exact ⟨i + 1, cur, by go_num, by omega, HcD.out, Hcan.out, by rw [Hcl.out]; exact hl64, by have h := Hval2.out; rwa [Hc0.out, Nat.mul_zero, Nat.add_zero] at h, by rw [Hcl.out]; exact Ho2.out, Hf2.out, Hblk2.out⟩
                    case measure => simp [intOf]; omega
                  · have hdc : decide (0 < c2) = true := by simpa using hcp
                    have Hcp := Lib.hid hcp
                    clear hcp
                    go_wp2_with (at_builtin; refine append_u32 (n := l.length) (base := w.heap.size + 1) (xs := u32s cur) (y := (c2 : Int)) rfl rfl rfl ?e1 rfl ?e2 ?e3 ?e4 ?_)
                    case e1 => exact owns_of_block Ho2.out fun y hy => heap_alloc_else _ _ _ (owns_lt Ho2.out hy)
                    case e2 => (first | (rw [hp_alloc, if_pos rfl]; done) | exact (Array.getElem?_eq_some_iff.1 ((hp_alloc _ _ _).trans (if_pos rfl))).2 | (simp only [hp_drew, hp_drewN]; rw [hp_alloc, if_pos rfl]; done))
                    case e3 => omega
                    case e4 => have := Hf2.out.size; have := lt_of_block Hblk2.out; (first | omega | (simp only [hp_drew, hp_drewN, hp_alloc_size]; omega) | (simp; omega))
                    intro g cap w9 hown1 hW1 hF1 hloc1 hg1
                    rw [u32s_snoc] at hown1
                    have hblk9 := (hW1 w.heap.size (by have := lt_of_block Hblk2.out; (first | omega | (simp only [hp_drew, hp_drewN, hp_alloc_size]; omega) | (simp; omega))) (fun e => by have h := owns_ge Ho2.out e; omega)).trans ((heap_alloc_else _ _ _ (lt_of_block Hblk2.out)).trans Hblk2.out)
                    have Hown1 := Lib.hid hown1
                    have Hf9 := Lib.hid (fr_append Hf2.out (owns_base Ho2.out (Nat.le_succ _)) hF1)
                    have q0 := heap_eq_cell hblk9 0
                    have q1 := heap_eq_cell hblk9 1
                    have q0z := heap_eq_frozen hblk9 0
                    have q1z := heap_eq_frozen hblk9 1
                    have ql := lt_of_block hblk9
                    have Hblk9 := Lib.hid hblk9
                    have hv9 : val 4294967296 (cur ++ [c2]) = decV (T.take (i + 1)) := by rw [val_snoc, Hcl.out]; exact Hval2.out
                    have hc9 : Canon (cur ++ [c2]) := canon_snoc (by have := Hcp.out; omega)
                    have hl9 : (cur ++ [c2]).length = l.length + 1 := by rw [List.length_append, Hcl.out]; rfl
                    have hD9 : Dig 4294967296 (cur ++ [c2]) := HcD.out.append (fun z hz => by rw [List.mem_singleton] at hz; omega)
                    have Hv9 := Lib.hid hv9
                    have Hc9 := Lib.hid hc9
                    have Hl9 := Lib.hid hl9
                    have HD9 := Lib.hid hD9
                    clear hown1 hW1 hF1 hloc1 hblk9 hv9 hc9 hl9 hD9
                    by_cases h64 : l.length = 64
                    · have hbig : 4294967296 ^ 64 ≤ decV T := by
                        have h1 := canon_le (B := 4294967296) (by omega) HD9.out Hc9.out (by simp)
                        rw [Hv9.out, Hl9.out, h64] at h1
                        exact Nat.le_trans h1 Hmono.out
                      have hr : r = (false, [], 6) := by
                        rw [HS.out]
                        unfold mkN
                        rw [if_neg (by intro h; rw [h] at hbig; exact absurd hbig (by decide)), if_neg (by omega)]
                      have Hr6 := Lib.hid hr
                      have hd64 : decide ((64 : Int) < (l.length : Int) + 1) = true := by rw [decide_eq_true_eq]; omega
                      clear hr hbig
                      go_wp2
                      (try simp only [Exit.inBlock, Exit.then])
                      rw [Hr6.out]
                      refine bodyPost_ret (big_result rfl (b := w.heap.size) (x := .bool false) (y := .slice none 0 0) rfl ?_ rfl) rfl ⟨_, _, ⟨Nat.le_refl _, fun g hg => (by cases hg)⟩, rfl, reads_nil _, ?_⟩
                      · have h := Hblk9.out
                        (repeat (first | rw [if_pos (by omega)] | rw [if_neg (by omega)] | rw [hp_drew] | rw [hp_drewN] | rw [hp_alloc_size] | rw [hp_setCell_size] | rw [hp_alloc] | rw [hp_setCell] | rw [Option.map_some] | rw [upd_cells] | rw [List.set_cons_zero] | rw [List.set_cons_succ] | rfl))
                        rw [h]
                        (repeat (first | rw [if_pos (by omega)] | rw [if_neg (by omega)] | rw [hp_drew] | rw [hp_drewN] | rw [hp_alloc_size] | rw [hp_setCell_size] | rw [hp_alloc] | rw [hp_setCell] | rw [Option.map_some] | rw [upd_cells] | rw [List.set_cons_zero] | rw [List.set_cons_succ] | rfl))
                      · exact (Hf9.out.setCell (.inr (by simp)) _).setCell (.inr (by simp)) _
                    · have hd64 : decide ((64 : Int) < (l.length : Int) + 1) = false := by rw [decide_eq_false_iff_not]; omega
                      go_wp2
                      go_roundw
                      case rel => exact ⟨i + 1, cur ++ [c2], by go_num, by omega, HD9.out, Hc9.out, by rw [Hl9.out]; omega, Hv9.out, by rw [Hl9.out]; exact Hown1.out, Hf9.out, Hblk9.out⟩
                      case measure => simp [intOf]; omega
            · obtain rfl : i = T.length := by omega
              have hv := Hv.out
              rw [List.take_length] at hv
              have hmd := made_calls (neg := neg) (Reads.of_owns Ho.out) HD.out (by omega) (owns_cap Ho.out) (A := fun g => w.heap.size + 1 ≤ g) (fun g hg => owns_ge Ho.out hg)
              rw [hv, ← HS.out] at hmd
              have Hmd := Lib.hid hmd
              clear hmd hv hiT
              go_wp2_with fail
              refine Hmd.out.mono ?_
              rintro e w4 ⟨ra, rc, hlo, rfl, hr, hf⟩
              have Hc := Hblk
              (try clear c0)
              (try clear c1)
              (try clear c0z)
              (try clear c1z)
              (try clear cl)
              have hc_ := (hf.block _ (lt_of_block Hc.out) (by simp)).trans Hc.out
              clear Hc
              have c0 := heap_eq_cell hc_ 0
              have c0z := heap_eq_frozen hc_ 0
              have c1 := heap_eq_cell hc_ 1
              have c1z := heap_eq_frozen hc_ 1
              have cl := lt_of_block hc_
              have Hc := Lib.hid hc_
              clear hc_
              have Hlo := Lib.hid hlo
              have Hr := Lib.hid hr
              have Hf5 := Lib.hid (Hf.out.trans0 hf)
              clear hlo hr hf
              obtain ⟨r1, r2, r3⟩ := r
              go_wp2
              (try simp only [Exit.inBlock, Exit.then])
              refine bodyPost_ret (big_result rfl (b := w.heap.size) (x := .bool r1) (y := .slice ra r2.length rc) rfl ?_ rfl) rfl ⟨_, _, ⟨Hlo.out.1, fun g hg => (by have := Hlo.out.2 g hg; omega)⟩, rfl, ?_, ?_⟩
              · have h := Hc.out
                (repeat (first | rw [if_pos (by omega)] | rw [if_neg (by omega)] | rw [hp_drew] | rw [hp_drewN] | rw [hp_alloc_size] | rw [hp_setCell_size] | rw [hp_alloc] | rw [hp_setCell] | rw [Option.map_some] | rw [upd_cells] | rw [List.set_cons_zero] | rw [List.set_cons_succ] | rfl))
                rw [h]
                (repeat (first | rw [if_pos (by omega)] | rw [if_neg (by omega)] | rw [hp_drew] | rw [hp_drewN] | rw [hp_alloc_size] | rw [hp_setCell_size] | rw [hp_alloc] | rw [hp_setCell] | rw [Option.map_some] | rw [upd_cells] | rw [List.set_cons_zero] | rw [List.set_cons_succ] | rfl))
              · refine Hr.out.keep fun x hx hl => ?_
                have := Hlo.out.2 x hx
                rw [setCell_else _ _ _ (by simp; omega), setCell_else _ _ _ (by simp; omega)]
              · exact (Hf5.out.setCell (.inr (by simp)) _).setCell (.inr (by simp)) _
      · simp only [Bool.true_and, Bool.or_eq_false_iff] at hb
        obtain ⟨rfl, rfl⟩ := hb
        go_enter Tryd.func28, Tryd.ntmps28
        go_wp2_with fail
        refine (Hcp.out _).mono ?_
        rintro e w1 ⟨rfl, rfl⟩
        go_wp2_with fail
        refine (Htr.out _).mono ?_
        rintro e w2 ⟨rfl, hbl⟩
        have hf := below_fr hbl
        have hb_ := (hf.block (w.heap.size) (by first | (simp; done) | (simp; omega)) (by simp)).trans (show _ = some (.cells #[.bool false, .slice none 0 0] 24 (0, 0)) by (repeat (first | rw [if_pos (by omega)] | rw [if_neg (by omega)] | rw [hp_drew] | rw [hp_drewN] | rw [hp_alloc_size] | rw [hp_setCell_size] | rw [hp_alloc] | rw [hp_setCell] | rw [Option.map_some] | rw [upd_cells] | rw [List.set_cons_zero] | rw [List.set_cons_succ] | rfl)))
        have b0 := heap_eq_cell hb_ 0
        have b0z := heap_eq_frozen hb_ 0
        have b1 := heap_eq_cell hb_ 1
        have b1z := heap_eq_frozen hb_ 1
        have bl := lt_of_block hb_
        have Hb := Lib.hid hb_
        clear hb_
        have Hf := Lib.hid (Fr.trans0 (by (repeat (first | exact Fr.refl _ _ | assumption | apply Fr.drewN | apply Fr.drew | apply Fr.alloc | refine Fr.setCell ?_ (Or.inr (by simp; try omega)) _)) : Fr [] w _) hf)
        clear hf hbl
        rcases tm with _ | ⟨d, tm⟩
        rotate_left
        · simp only [ne_eq, reduceCtorEq, not_false_eq_true, decide_true, if_true] at hS
          subst hS
          go_wp2_with fail
          (try simp only [Exit.inBlock, Exit.then])
          refine bodyPost_ret (big_result rfl (b := w.heap.size) (x := .bool false) (y := .slice none 0 0) rfl ?_ rfl) rfl ⟨_, _, ⟨Nat.le_refl _, fun g hg => (by cases hg)⟩, rfl, reads_nil _, ?_⟩
          · (have h := Hb.out; (repeat (first | rw [if_pos (by omega)] | rw [if_neg (by omega)] | rw [hp_drew] | rw [hp_drewN] | rw [hp_alloc_size] | rw [hp_setCell_size] | rw [hp_alloc] | rw [hp_setCell] | rw [Option.map_some] | rw [upd_cells] | rw [List.set_cons_zero] | rw [List.set_cons_succ] | rfl)); rw [h]; (repeat (first | rw [if_pos (by omega)] | rw [if_neg (by omega)] | rw [hp_drew] | rw [hp_drewN] | rw [hp_alloc_size] | rw [hp_setCell_size] | rw [hp_alloc] | rw [hp_setCell] | rw [Option.map_some] | rw [upd_cells] | rw [List.set_cons_zero] | rw [List.set_cons_succ] | rfl)))
          · exact (Hf.out.setCell (.inr (by simp)) _).setCell (.inr (by simp)) _
        · simp only [ne_eq, not_true_eq_false, decide_false, Bool.false_eq_true, if_false] at hS
          have hall := trimS_nil.1 Htm.out
          clear hz2 hlg2 hch Htm Htr Hcp
          obtain ⟨T, hT⟩ : ∃ T, c :: ts = T := ⟨_, rfl⟩
          have hlT : T.length ≤ 10000 := by rw [← hT]; exact hlt
          rw [hT] at hS hall ⊢
          have HS := Lib.hid hS
          have Hall := Lib.hid hall
          clear hS hall hT hlt
          go_wp2_with fail
          go_loopw [6, 39] (fun x6 x39 wl => ∃ (i : Nat) (l : List Nat), x39 = .int .i64 i ∧ i ≤ T.length ∧ Dig 4294967296 l ∧ Canon l ∧ l.length ≤ 64 ∧ val 4294967296 l = decV (T.take i) ∧ wl.ownsRow (w.heap.size + 1) 45 1 x6 l.length (u32s l) ∧ Fr [] w wl ∧
            wl.heap[w.heap.size]? = some (.cells #[.bool false, .slice none 0 0] 24 (0, 0))) (fun _ x39 _ => T.length - (intOf x39).toNat)
          case atStart => exact ⟨0, [], rfl, by omega, Dig.nil, by simp [Canon], by simp, rfl, World.ownsRow_nil _ _ _ _, Hf.out, Hb.out⟩
          case round =>
            obtain ⟨i, l, rfl, hi, hD, hC, hl64, hv, ho, hf, hblk⟩ := hrel
            obtain ⟨oa, oc, rfl, hoa, hon⟩ := owns_form ho
            have Hoa := Lib.hid hoa
            have HD := Lib.hid hD
            have HC := Lib.hid hC
            have Hv := Lib.hid hv
            have Ho := Lib.hid ho
            have Hf := Lib.hid hf
            have Hblk := Lib.hid hblk
            clear hoa hon hD hC hv ho hf hblk
            (try clear b0 b1 bl b0z b1z)
            by_cases hiT : i < T.length
            · obtain ⟨ch, hch⟩ : ∃ ch, T[i]? = some ch := ⟨_, List.getElem?_eq_getElem hiT⟩
              obtain ⟨hx1, hx2⟩ := (isdig ch).1 (Hall.out ch (List.mem_of_getElem? hch))
              have hdec := decV_take_succ hch
              obtain ⟨x, hx⟩ : ∃ x, ch.toNat = x := ⟨_, rfl⟩
              have hget : ∀ h, ((⟨T.toArray⟩ : ByteArray)[i]'h).toNat = x := fun h => by
                rw [← hx]
                have h2 : T[i]'hiT = ch := by rw [List.getElem?_eq_getElem hiT] at hch; exact Option.some.inj hch
                rw [← h2]; rfl
              rw [hx] at hx1 hx2 hdec
              obtain ⟨d, hd⟩ : ∃ d, d = x - 48 := ⟨_, rfl⟩
              have Ed : ((x : Int) - 48) = (d : Nat) := by omega
              have hd10 : d < 10 := by omega
              rw [← hd, ← Hv.out] at hdec
              have Hdec := Lib.hid hdec
              have Hd := Lib.hid hd
              clear hch hx hdec hd
              go_wp2_with fail
              clear hget Ed
              go_loopw [8, 49] (fun x8 x49 wl => ∃ (c k : Nat) (cur : List Nat), x8 = .int .u64 c ∧ x49 = .int .i64 k ∧ k ≤ l.length ∧ c < 10 ∧ cur.length = l.length ∧ Dig 4294967296 cur ∧ cur.drop k = l.drop k ∧ val 4294967296 (cur.take k) + 4294967296 ^ k * c = 10 * val 4294967296 (l.take k) + d ∧
                wl.ownsRow (w.heap.size + 1) 45 1 (.slice oa l.length oc) l.length (u32s cur) ∧ Fr [] w wl ∧ wl.heap[w.heap.size]? = some (.cells #[.bool false, .slice none 0 0] 24 (0, 0))) (fun _ x49 _ => l.length - (intOf x49).toNat)
              case atStart => exact ⟨d, 0, l, rfl, rfl, by omega, hd10, rfl, HD.out, rfl, by simp [val], Ho.out, Hf.out, Hblk.out⟩
              case round =>
                obtain ⟨c2, k, cur, rfl, rfl, hk, hc2, hcl, hcD, hdr, hval, ho2, hf2, hblk2⟩ := hrel
                have Hcl := Lib.hid hcl
                have HcD := Lib.hid hcD
                have Hdr := Lib.hid hdr
                have Hval := Lib.hid hval
                have Ho2 := Lib.hid ho2
                have Hf2 := Lib.hid hf2
                have Hblk2 := Lib.hid hblk2
                clear hcl hcD hdr hval ho2 hf2 hblk2
                by_cases hkl : k < l.length
                · obtain ⟨g, rfl⟩ := Hoa.out (by omega)
                  have e3 := owns_cell Ho2.out rfl (u32s_get (l := cur) (i := k) (by have := Hcl.out; omega))
                  have hfz := owns_frozen Ho2.out rfl k
                  have hgl := owns_lt Ho2.out rfl
                  have hy : cur.getD k 0 < 4294967296 := HcD.out.getD (by omega) k
                  have hgd : cur.getD k 0 = l.getD k 0 := by
                    have h := congrArg (fun q => q.getD 0 0) Hdr.out
                    simpa [List.getD_eq_getElem?_getD, List.getElem?_drop] using h
                  have hset := fun v => owns_set Ho2.out rfl (j := k) (by rw [u32s_length]; have := Hcl.out; omega) (.int .u32 v)
                  have Hset := Lib.hid hset
                  have Hvt := Lib.hid (val_take_succ 4294967296 l k)
                  rw [← hgd] at Hvt
                  clear hset hgd
                  generalize cur.getD k 0 = y at *
                  have Ey : IntKind.u64.wrap (y : Int) = y := IntWalk.u64_in _ (by omega)
                  obtain ⟨v, hv⟩ : ∃ v, v = y * 10 + c2 := ⟨_, rfl⟩
                  have Ev : ((y : Int) * 10 + c2) = (v : Nat) := by omega
                  have hvb : v < 10 * 4294967296 := by omega
                  have Hst := Lib.hid (mul10_step (B := 4294967296) Hval.out hv)
                  have Hvb := Lib.hid hvb
                  clear hv
                  go_wp2
                  go_roundw
                  case rel =>
                    have e1 : ((v % 4294967296 : Nat) : Int) = (v : Int) % 4294967296 := by omega
                    have e2 : ((v / 4294967296 : Nat) : Int) = (v : Int) / 4294967296 := by omega
                    refine ⟨v / 4294967296, k + 1, cur.set k (v % 4294967296), by rw [e2], by go_num, by omega, by have := Hvb.out; omega, by rw [List.length_set]; exact Hcl.out, HcD.out.set (Nat.mod_lt _ (by omega)), ?_, ?_, ?_, ?_, ?_⟩
                    · rw [List.drop_set_of_lt (by omega)]
                      have h := congrArg (List.drop 1) Hdr.out
                      rwa [List.drop_drop, List.drop_drop] at h
                    · rw [Hvt.out, val_take_succ, List.getD_eq_getElem?_getD, List.getElem?_set_self (by have := Hcl.out; omega), List.take_set_of_le (Nat.le_refl k), Nat.pow_succ]
                      exact Hst.out
                    · rw [u32s_set, e1]
                      exact Hset.out _
                    · exact Hf2.out.setCell (.inr (by have : w.heap.size + 1 ≤ g := owns_ge Ho2.out rfl; simp; omega)) _
                    · rw [setCell_else _ _ _ (by have : w.heap.size + 1 ≤ g := owns_ge Ho2.out rfl; simp; omega)]
                      exact Hblk2.out
                  case measure => simp [intOf]; omega
                · obtain rfl : k = l.length := by omega
                  have hval := Hval.out
                  rw [List.take_length, ← Hcl.out, List.take_length, Hcl.out, ← Hdec.out] at hval
                  have Hval2 := Lib.hid hval
                  have hmono := decV_take_le T (i + 1)
                  have Hmono := Lib.hid hmono
                  clear hval hmono
                  rcases Nat.eq_zero_or_pos c2 with hc0 | hcp
                  · have hdc : decide (0 < c2) = false := by simp; omega
                    have hcan : Canon cur := by
                      have h1 := Hval2.out
                      rw [hc0, Nat.mul_zero, Nat.add_zero] at h1
                      rcases Nat.eq_zero_or_pos l.length with h | h
                      · have h2 := Hcl.out
                        rw [h] at h2
                        rw [List.eq_nil_of_length_eq_zero h2]
                        simp [Canon]
                      · refine canon_of_ge HcD.out ?_
                        have h2 := canon_le (B := 4294967296) (by omega) HD.out HC.out (List.length_pos_iff.1 h)
                        rw [h1, Hdec.out, Hcl.out]
                        omega
                    have Hcan := Lib.hid hcan
                    have Hc0 := Lib.hid hc0
                    clear hcan hc0
                    go_wp2
                    go_roundw
                    case rel => exact ⟨i + 1, cur, by go_num, by omega, HcD.out, Hcan.out, by rw [Hcl.out]; exact hl64, by have h := Hval2.out; rwa [Hc0.out, Nat.mul_zero, Nat.add_zero] at h, by rw [Hcl.out]; exact Ho2.out, Hf2.out, Hblk2.out⟩
                    case measure => simp [intOf]; omega
                  · have hdc : decide (0 < c2) = true := by simpa using hcp
                    have Hcp := Lib.hid hcp
                    clear hcp
                    go_wp2_with (at_builtin; refine append_u32 (n := l.length) (base := w.heap.size + 1) (xs := u32s cur) (y := (c2 : Int)) rfl rfl rfl ?e1 rfl ?e2 ?e3 ?e4 ?_)
                    case e1 => exact owns_of_block Ho2.out fun y hy => heap_alloc_else _ _ _ (owns_lt Ho2.out hy)
                    case e2 => (first | (rw [hp_alloc, if_pos rfl]; done) | exact (Array.getElem?_eq_some_iff.1 ((hp_alloc _ _ _).trans (if_pos rfl))).2 | (simp only [hp_drew, hp_drewN]; rw [hp_alloc, if_pos rfl]; done))
                    case e3 => omega
                    case e4 => have := Hf2.out.size; have := lt_of_block Hblk2.out; (first | omega | (simp only [hp_drew, hp_drewN, hp_alloc_size]; omega) | (simp; omega))
                    intro g cap w9 hown1 hW1 hF1 hloc1 hg1
                    rw [u32s_snoc] at hown1
                    have hblk9 := (hW1 w.heap.size (by have := lt_of_block Hblk2.out; (first | omega | (simp only [hp_drew, hp_drewN, hp_alloc_size]; omega) | (simp; omega))) (fun e => by have h := owns_ge Ho2.out e; omega)).trans ((heap_alloc_else _ _ _ (lt_of_block Hblk2.out)).trans Hblk2.out)
                    have Hown1 := Lib.hid hown1
                    have Hf9 := Lib.hid (fr_append Hf2.out (owns_base Ho2.out (Nat.le_succ _)) hF1)
                    have q0 := heap_eq_cell hblk9 0
                    have q1 := heap_eq_cell hblk9 1
                    have q0z := heap_eq_frozen hblk9 0
                    have q1z := heap_eq_frozen hblk9 1
                    have ql := lt_of_block hblk9
                    have Hblk9 := Lib.hid hblk9
                    have hv9 : val 4294967296 (cur ++ [c2]) = decV (T.take (i + 1)) := by rw [val_snoc, Hcl.out]; exact Hval2.out
                    have hc9 : Canon (cur ++ [c2]) := canon_snoc (by have := Hcp.out; omega)
                    have hl9 : (cur ++ [c2]).length = l.length + 1 := by rw [List.length_append, Hcl.out]; rfl
                    have hD9 : Dig 4294967296 (cur ++ [c2]) := HcD.out.append (fun z hz => by rw [List.mem_singleton] at hz; omega)
                    have Hv9 := Lib.hid hv9
                    have Hc9 := Lib.hid hc9
                    have Hl9 := Lib.hid hl9
                    have HD9 := Lib.hid hD9
                    clear hown1 hW1 hF1 hloc1 hblk9 hv9 hc9 hl9 hD9
                    by_cases h64 : l.length = 64
                    · have hbig : 4294967296 ^ 64 ≤ decV T := by
                        have h1 := canon_le (B := 4294967296) (by omega) HD9.out Hc9.out (by simp)
                        rw [Hv9.out, Hl9.out, h64] at h1
                        exact Nat.le_trans h1 Hmono.out
                      have hr : r = (false, [], 6) := by
                        rw [HS.out]
                        unfold mkN
                        rw [if_neg (by intro h; rw [h] at hbig; exact absurd hbig (by decide)), if_neg (by omega)]
                      have Hr6 := Lib.hid hr
                      have hd64 : decide ((64 : Int) < (l.length : Int) + 1) = true := by rw [decide_eq_true_eq]; omega
                      clear hr hbig
                      go_wp2
                      (try simp only [Exit.inBlock, Exit.then])
                      rw [Hr6.out]
                      refine bodyPost_ret (big_result rfl (b := w.heap.size) (x := .bool false) (y := .slice none 0 0) rfl ?_ rfl) rfl ⟨_, _, ⟨Nat.le_refl _, fun g hg => (by cases hg)⟩, rfl, reads_nil _, ?_⟩
                      · have h := Hblk9.out
                        (repeat (first | rw [if_pos (by omega)] | rw [if_neg (by omega)] | rw [hp_drew] | rw [hp_drewN] | rw [hp_alloc_size] | rw [hp_setCell_size] | rw [hp_alloc] | rw [hp_setCell] | rw [Option.map_some] | rw [upd_cells] | rw [List.set_cons_zero] | rw [List.set_cons_succ] | rfl))
                        rw [h]
                        (repeat (first | rw [if_pos (by omega)] | rw [if_neg (by omega)] | rw [hp_drew] | rw [hp_drewN] | rw [hp_alloc_size] | rw [hp_setCell_size] | rw [hp_alloc] | rw [hp_setCell] | rw [Option.map_some] | rw [upd_cells] | rw [List.set_cons_zero] | rw [List.set_cons_succ] | rfl))
                      · exact (Hf9.out.setCell (.inr (by simp)) _).setCell (.inr (by simp)) _
                    · have hd64 : decide ((64 : Int) < (l.length : Int) + 1) = false := by rw [decide_eq_false_iff_not]; omega
                      go_wp2
                      go_roundw
                      case rel => exact ⟨i + 1, cur ++ [c2], by go_num, by omega, HD9.out, Hc9.out, by rw [Hl9.out]; omega, Hv9.out, by rw [Hl9.out]; exact Hown1.out, Hf9.out, Hblk9.out⟩
                      case measure => simp [intOf]; omega
            · obtain rfl : i = T.length := by omega
              have hv := Hv.out
              rw [List.take_length] at hv
              have hmd := made_calls (neg := false) (Reads.of_owns Ho.out) HD.out (by omega) (owns_cap Ho.out) (A := fun g => w.heap.size + 1 ≤ g) (fun g hg => owns_ge Ho.out hg)
              rw [hv, ← HS.out] at hmd
              have Hmd := Lib.hid hmd
              clear hmd hv hiT
              go_wp2_with fail
              refine Hmd.out.mono ?_
              rintro e w4 ⟨ra, rc, hlo, rfl, hr, hf⟩
              have Hc := Hblk
              (try clear c0)
              (try clear c1)
              (try clear c0z)
              (try clear c1z)
              (try clear cl)
              have hc_ := (hf.block _ (lt_of_block Hc.out) (by simp)).trans Hc.out
              clear Hc
              have c0 := heap_eq_cell hc_ 0
              have c0z := heap_eq_frozen hc_ 0
              have c1 := heap_eq_cell hc_ 1
              have c1z := heap_eq_frozen hc_ 1
              have cl := lt_of_block hc_
              have Hc := Lib.hid hc_
              clear hc_
              have Hlo := Lib.hid hlo
              have Hr := Lib.hid hr
              have Hf5 := Lib.hid (Hf.out.trans0 hf)
              clear hlo hr hf
              obtain ⟨r1, r2, r3⟩ := r
              go_wp2
              (try simp only [Exit.inBlock, Exit.then])
              refine bodyPost_ret (big_result rfl (b := w.heap.size) (x := .bool r1) (y := .slice ra r2.length rc) rfl ?_ rfl) rfl ⟨_, _, ⟨Hlo.out.1, fun g hg => (by have := Hlo.out.2 g hg; omega)⟩, rfl, ?_, ?_⟩
              · have h := Hc.out
                (repeat (first | rw [if_pos (by omega)] | rw [if_neg (by omega)] | rw [hp_drew] | rw [hp_drewN] | rw [hp_alloc_size] | rw [hp_setCell_size] | rw [hp_alloc] | rw [hp_setCell] | rw [Option.map_some] | rw [upd_cells] | rw [List.set_cons_zero] | rw [List.set_cons_succ] | rfl))
                rw [h]
                (repeat (first | rw [if_pos (by omega)] | rw [if_neg (by omega)] | rw [hp_drew] | rw [hp_drewN] | rw [hp_alloc_size] | rw [hp_setCell_size] | rw [hp_alloc] | rw [hp_setCell] | rw [Option.map_some] | rw [upd_cells] | rw [List.set_cons_zero] | rw [List.set_cons_succ] | rfl))
              · refine Hr.out.keep fun x hx hl => ?_
                have := Hlo.out.2 x hx
                rw [setCell_else _ _ _ (by simp; omega), setCell_else _ _ _ (by simp; omega)]
              · exact (Hf5.out.setCell (.inr (by simp)) _).setCell (.inr (by simp)) _
end Go.Proofs.YtbacamboknmppaaDoor
