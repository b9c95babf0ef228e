/- BitioRoundTrip: what the law's function returns. -/
import Derived.Test.YtfcihdicbncoaaaBu
namespace Go.Proofs.Ytfcihdicbncoaaa
open Go Go.RowKit Go.Proofs.Rg Go.Proofs.Hp Go.Proofs.Bp
theorem info_call : (Try.prog.info? 35).map (fun i => (i.zero, i.size, i.bytes)) = some (some (.agg #[.int .i64 0, .int .i64 0, .int .i64 0, .int .u64 0]), 4, 32) := by kernel_rfl
/-- append of one call -/
theorem append_call {ops : Array Oper} {rest : List Oper} {o : Oper} {a : Act} {W : World} {Q : Exit → Act → World → Prop} (hgd : o.guard = none) {s x : Operand} (ho : o.op = .call { callee := .builtin .append, args := #[s, x], argTypes := #[22, 22] })
    {base : Nat} {v : Value} {n : Nat} {xs : List Value} (hs : a.eval s = v) (hown : W.ownsRow base 35 4 v n xs) {nb c : Nat} {y : Cl} (hx : a.eval x = .slice (some ⟨nb, 0, none⟩) 1 c)
    (hnb : W.heap[nb]? = some (.cells #[.int .i64 y.kd, .int .i64 y.n, .int .i64 y.k, .int .u64 y.v] 35 (0, 0))) (hn : n ≤ 4000000000000) (hbase : base ≤ W.heap.size)
    (h : ∀ g cap w', w'.ownsRow base 35 4 (.slice (some ⟨g, 0, none⟩) (n + 1) cap) (n + 1) (xs ++ clCells y) → (∀ b, b < W.heap.size → v.ownBlock ≠ some b → w'.heap[b]? = W.heap[b]?) → Fr v.ownBlock.toList W w' → (v.ownBlock = some g ∨ g = W.heap.size) → g < w'.heap.size →
      wpList Try.prog ops Q rest (a.put o.dst (.slice (some ⟨g, 0, none⟩) (n + 1) cap)) w') : wpList Try.prog ops Q (o :: rest) a W :=
  append_new hgd ho Try.underlying22 info_call rfl (by decide) hs hown hx (news := clCells y) hnb rfl (by intro u hu; simp [clCells] at hu; rcases hu with rfl | rfl | rfl | rfl <;> rfl) (by unfold maxLen; omega) (by omega) hbase h
def encs (ds : List Cl) : List Bool := (ds.map enc).flatten
theorem encs_snoc (ds : List Cl) (c : Cl) : encs (ds ++ [c]) = encs ds ++ enc c := by simp [encs]
theorem encs_split {ds : List Cl} {k : Nat} {c : Cl} (h : ds[k]? = some c) : ∃ post, encs ds = encs (ds.take k) ++ (enc c ++ post) ∧ encs (ds.take (k + 1)) = encs (ds.take k) ++ enc c := by
  have hk := (List.getElem?_eq_some_iff.1 h).1
  refine ⟨encs (ds.drop (k + 1)), ?_, by rw [List.take_add_one, h]; exact encs_snoc _ _⟩
  have h1 : ds = ds.take k ++ (c :: ds.drop (k + 1)) := by
    have := (List.getElem?_eq_some_iff.1 h).2
    rw [← this, List.getElem_cons_drop, List.take_append_drop]
  have h2 : ∀ xs ys, encs (xs ++ ys) = encs xs ++ encs ys := fun xs ys => by simp [encs]
  conv => lhs; rw [h1, h2]
  rfl
set_option maxHeartbeats 16000000 in
set_option maxRecDepth 100000 in
theorem RoundTrip_calls {W : World} {v : Value} {l : List Cl} (hv : Reads W v l.length 4 (l.map clCells).flatten) (hok : ∀ x ∈ l, x.ok) :
    Calls Try.prog 7 #[v] W fun e w' => e = .returned (.bool true) ∧ Fr [] W w' := by
  obtain ⟨_, a, c, rfl, hav⟩ := hv
  have Hav := Lib.hid hav
  have Hok := Lib.hid hok
  clear hav hok
  by_cases hl : 400 < l.length
  · have hd : decide ((400 : Int) < ↑l.length) = true := by simp; omega
    clear hl
    go_enter Try.func7, Try.ntmps7
    go_wp2_with fail
    refine (awake_calls (Has.nil (Fr.refl [] W))).mono ?_
    rintro e w1 ⟨rfl, h⟩
    have Hf := Lib.hid h.fr
    clear h
    go_wp2
    go_ret
    exact ⟨rfl, Hf.out⟩
  have hd : decide ((400 : Int) < ↑l.length) = false := by simp; omega
  have hl2 : l.length ≤ 400 := by omega
  have H0 := Lib.hid (has_newWr (Has.nil (Fr.refl [] W)))
  clear hl
  go_enter Try.func7, Try.ntmps7
  go_wp2_with fail
  go_loopw [4, 23] (fun dv x wr => ∃ (k : Nat) (ds : List Cl), x = .int .i64 k ∧ k ≤ l.length ∧ ds.length ≤ k ∧ (∀ c ∈ ds, Good c) ∧ Has W wr [row 35 4 dv ds.length (ds.map clCells).flatten, wrR W.heap.size (encs ds)]) (fun _ x _ => l.length - (intOf x).toNat)
  case atStart => exact ⟨0, [], rfl, by omega, by simp, by simp, H0.out.new (Fr.refl _ _) (F := []) ⟨World.ownsRow_nil _ _ _ _, rfl⟩ (by simp)⟩
  case round =>
    obtain ⟨k, ds, rfl, hk, hds, hgood, hH⟩ := hrel
    obtain ⟨da, dc, rfl, _, _⟩ := owns_form hH.row
    have HH := Lib.hid hH
    have Hgood := Lib.hid hgood
    clear hH hgood
    by_cases hlt : k < l.length
    · obtain ⟨g, off, rfl, hg, hc⟩ := Hav.out (by omega)
      obtain ⟨⟨kd, cn, ck, cv⟩, hx⟩ : ∃ x, l[k]? = some x := ⟨_, List.getElem?_eq_getElem hlt⟩
      obtain ⟨f0, f1, f2, f3⟩ := cls_get hx
      simp only at f0 f1 f2 f3
      rw [Nat.mul_comm] at f0 f1 f2 f3
      have hgw : ∀ j, wr.cell? ⟨g, off + j, none⟩ = W.cell? ⟨g, off + j, none⟩ := fun j => HH.out.fr.cell (p := ⟨g, off + j, none⟩) hg (by simp)
      have e0 := (hgw _).trans (hc _ _ f0)
      have e1 := (hgw _).trans (hc _ _ f1)
      have e2 := (hgw _).trans (hc _ _ f2)
      have e3 := (hgw _).trans (hc _ _ f3)
      simp only [← Nat.add_assoc] at e1 e2 e3
      have hgr : g < wr.heap.size := by have := HH.out.fr.size; omega
      obtain ⟨hk1, hk2, hcv⟩ := Hok.out _ (List.mem_of_getElem? hx)
      simp only at hk1 hk2 hcv
      have Hb := Lib.hid (And.intro hk1 (And.intro hk2 hcv))
      have H1 := Lib.hid ((HH.out.newBlk (.cells #[.int .i64 kd, .int .i64 cn, .int .i64 ck, .int .u64 cv] 35)).third)
      clear hx hc f0 f1 f2 f3 hgw hk1 hk2 hcv
      by_cases h0 : kd = 0
      · subst h0
        rcases hr : wBits (encs ds) cv cn with ⟨bs', x⟩
        have hcall := has_wBits H1.out Hb.out.2.2 cn hr
        have HC := Lib.hid hcall
        by_cases hx0 : x = 0
        · subst hx0
          obtain ⟨hp1, hp2, hp3, rfl⟩ := wBits_zero hr
          have hgd : Good ⟨0, cn, ck, cv⟩ := .inl ⟨rfl, hp1, hp2, hp3⟩
          have henc : encs ds ++ digits cv cn.toNat = encs (ds ++ [⟨0, cn, ck, cv⟩]) := by rw [encs_snoc]; rfl
          rw [henc] at HC
          have Hgd := Lib.hid hgd
          clear hcall hr hgd henc hp1 hp2 hp3
          go_wp2_with fail
          refine HC.out.mono ?_
          rintro e w2 ⟨rfl, h⟩
          have hk2 := h.swap.blk
          have k0 := heap_eq_cell hk2 0
          have k1 := heap_eq_cell hk2 1
          have k2 := heap_eq_cell hk2 2
          have k3 := heap_eq_cell hk2 3
          have hkl := lt_of_block hk2
          have H2 := Lib.hid h.third
          clear h hk2 HC
          go_wp2_with (at_builtin; refine append_call (y := ⟨0, cn, ck, cv⟩) (n := ds.length) (base := 0) (xs := (ds.map clCells).flatten) rfl rfl rfl ?e1 rfl ?e2 ?e3 ?e4 ?_)
          case e1 => exact owns_of_block H2.out.row fun y hy => heap_alloc_else _ _ _ (owns_lt H2.out.row hy)
          case e2 => exact (Array.getElem?_eq_some_iff.1 ((hp_alloc _ _ _).trans (if_pos rfl))).2
          case e3 => omega
          case e4 => omega
          intro g' cap w9 hown1 hW1 hF1 hloc1 hg1
          have h9 : Has W w9 (row 35 4 (.slice (some ⟨g', 0, none⟩) (ds.length + 1) cap) (ds.length + 1) ((ds.map clCells).flatten ++ clCells ⟨0, cn, ck, cv⟩) :: _) :=
            (H2.out.step ((Fr.refl [] w2).alloc (.cells #[.int .i64 0, .int .i64 cn, .int .i64 ck, .int .u64 cv] 35))).turn fun F hF => ⟨[g'], ⟨hown1, rfl⟩, by rw [hF.2]; exact hF1, fun x hx => by
              simp only [List.mem_cons, List.mem_nil_iff, or_false] at hx
              subst hx
              rcases hloc1 with h | h
              · left; rw [hF.2, h]; simp
              · right; simp only [hp_alloc_size]; omega⟩
          have H9 := Lib.hid (h9.third.drop)
          clear h9 hown1 hW1 hF1 hloc1
          go_wp2
          go_roundw
          case rel =>
            refine ⟨k + 1, ds ++ [⟨0, cn, ck, cv⟩], by go_num, by omega, by simp; omega, fun c hc => ?_, ?_⟩
            · rw [List.mem_append] at hc
              rcases hc with hc | hc
              · exact Hgood.out c hc
              · simp at hc; subst hc; exact Hgd.out
            · have e : ((ds ++ [(⟨0, cn, ck, cv⟩ : Cl)]).map clCells).flatten = (ds.map clCells).flatten ++ clCells ⟨0, cn, ck, cv⟩ := by simp
              rw [e, List.length_append]
              exact H9.out
          case measure => simp [intOf]; omega
        · have hb : (x == 0) = false := by simpa using hx0
          obtain rfl := wBits_else hr hx0
          clear hcall hr hx0
          go_wp2_with fail
          refine HC.out.mono ?_
          rintro e w2 ⟨rfl, h⟩
          have hk2 := h.swap.blk
          have k0 := heap_eq_cell hk2 0
          have H2 := Lib.hid (h.swap.drop.swap)
          clear h hk2 HC
          go_wp2
          go_roundw
          case rel => exact ⟨k + 1, ds, by go_num, by omega, by omega, Hgood.out, H2.out⟩
          case measure => simp [intOf]; omega
      by_cases h1 : kd = 1
      · subst h1
        rcases hr : wGamma (encs ds) ck with ⟨bs', x⟩
        have hcall := has_wGamma H1.out ck Hb.out.2.1 hr
        have HC := Lib.hid hcall
        by_cases hx0 : x = 0
        · subst hx0
          obtain ⟨hp1, rfl⟩ := wGamma_zero hr
          have hgd : Good ⟨1, cn, ck, cv⟩ := .inr (.inl ⟨rfl, hp1, Hb.out.2.1⟩)
          have henc : encs ds ++ gcode (ck.toNat + 1) = encs (ds ++ [⟨1, cn, ck, cv⟩]) := by rw [encs_snoc]; rfl
          rw [henc] at HC
          have Hgd := Lib.hid hgd
          clear hcall hr hgd henc hp1
          go_wp2_with fail
          refine HC.out.mono ?_
          rintro e w2 ⟨rfl, h⟩
          have hk2 := h.swap.blk
          have k0 := heap_eq_cell hk2 0
          have k1 := heap_eq_cell hk2 1
          have k2 := heap_eq_cell hk2 2
          have k3 := heap_eq_cell hk2 3
          have hkl := lt_of_block hk2
          have H2 := Lib.hid h.third
          clear h hk2 HC
          go_wp2_with (at_builtin; refine append_call (y := ⟨1, cn, ck, cv⟩) (n := ds.length) (base := 0) (xs := (ds.map clCells).flatten) rfl rfl rfl ?e1 rfl ?e2 ?e3 ?e4 ?_)
          case e1 => exact owns_of_block H2.out.row fun y hy => heap_alloc_else _ _ _ (owns_lt H2.out.row hy)
          case e2 => exact (Array.getElem?_eq_some_iff.1 ((hp_alloc _ _ _).trans (if_pos rfl))).2
          case e3 => omega
          case e4 => omega
          intro g' cap w9 hown1 hW1 hF1 hloc1 hg1
          have h9 : Has W w9 (row 35 4 (.slice (some ⟨g', 0, none⟩) (ds.length + 1) cap) (ds.length + 1) ((ds.map clCells).flatten ++ clCells ⟨1, cn, ck, cv⟩) :: _) :=
            (H2.out.step ((Fr.refl [] w2).alloc (.cells #[.int .i64 1, .int .i64 cn, .int .i64 ck, .int .u64 cv] 35))).turn fun F hF => ⟨[g'], ⟨hown1, rfl⟩, by rw [hF.2]; exact hF1, fun x hx => by
              simp only [List.mem_cons, List.mem_nil_iff, or_false] at hx
              subst hx
              rcases hloc1 with h | h
              · left; rw [hF.2, h]; simp
              · right; simp only [hp_alloc_size]; omega⟩
          have H9 := Lib.hid (h9.third.drop)
          clear h9 hown1 hW1 hF1 hloc1
          go_wp2
          go_roundw
          case rel =>
            refine ⟨k + 1, ds ++ [⟨1, cn, ck, cv⟩], by go_num, by omega, by simp; omega, fun c hc => ?_, ?_⟩
            · rw [List.mem_append] at hc
              rcases hc with hc | hc
              · exact Hgood.out c hc
              · simp at hc; subst hc; exact Hgd.out
            · have e : ((ds ++ [(⟨1, cn, ck, cv⟩ : Cl)]).map clCells).flatten = (ds.map clCells).flatten ++ clCells ⟨1, cn, ck, cv⟩ := by simp
              rw [e, List.length_append]
              exact H9.out
          case measure => simp [intOf]; omega
        · have hb : (x == 0) = false := by simpa using hx0
          obtain rfl := wGamma_else hr hx0
          clear hcall hr hx0
          go_wp2_with fail
          refine HC.out.mono ?_
          rintro e w2 ⟨rfl, h⟩
          have hk2 := h.swap.blk
          have k0 := heap_eq_cell hk2 0
          have H2 := Lib.hid (h.swap.drop.swap)
          clear h hk2 HC
          go_wp2
          go_roundw
          case rel => exact ⟨k + 1, ds, by go_num, by omega, by omega, Hgood.out, H2.out⟩
          case measure => simp [intOf]; omega
      by_cases h2 : kd = 2
      · subst h2
        rcases hr : wSigned (encs ds) ck with ⟨bs', x⟩
        have hcall := has_wSigned H1.out ck hr
        have HC := Lib.hid hcall
        by_cases hx0 : x = 0
        · subst hx0
          obtain ⟨hp1, hp2, rfl⟩ := wSigned_zero hr
          have hgd : Good ⟨2, cn, ck, cv⟩ := .inr (.inr ⟨rfl, hp1, hp2⟩)
          have henc : encs ds ++ gcode ((fold ck).toNat + 1) = encs (ds ++ [⟨2, cn, ck, cv⟩]) := by rw [encs_snoc]; rfl
          rw [henc] at HC
          have Hgd := Lib.hid hgd
          clear hcall hr hgd henc hp1 hp2
          go_wp2_with fail
          refine HC.out.mono ?_
          rintro e w2 ⟨rfl, h⟩
          have hk2 := h.swap.blk
          have k0 := heap_eq_cell hk2 0
          have k1 := heap_eq_cell hk2 1
          have k2 := heap_eq_cell hk2 2
          have k3 := heap_eq_cell hk2 3
          have hkl := lt_of_block hk2
          have H2 := Lib.hid h.third
          clear h hk2 HC
          go_wp2_with (at_builtin; refine append_call (y := ⟨2, cn, ck, cv⟩) (n := ds.length) (base := 0) (xs := (ds.map clCells).flatten) rfl rfl rfl ?e1 rfl ?e2 ?e3 ?e4 ?_)
          case e1 => exact owns_of_block H2.out.row fun y hy => heap_alloc_else _ _ _ (owns_lt H2.out.row hy)
          case e2 => exact (Array.getElem?_eq_some_iff.1 ((hp_alloc _ _ _).trans (if_pos rfl))).2
          case e3 => omega
          case e4 => omega
          intro g' cap w9 hown1 hW1 hF1 hloc1 hg1
          have h9 : Has W w9 (row 35 4 (.slice (some ⟨g', 0, none⟩) (ds.length + 1) cap) (ds.length + 1) ((ds.map clCells).flatten ++ clCells ⟨2, cn, ck, cv⟩) :: _) :=
            (H2.out.step ((Fr.refl [] w2).alloc (.cells #[.int .i64 2, .int .i64 cn, .int .i64 ck, .int .u64 cv] 35))).turn fun F hF => ⟨[g'], ⟨hown1, rfl⟩, by rw [hF.2]; exact hF1, fun x hx => by
              simp only [List.mem_cons, List.mem_nil_iff, or_false] at hx
              subst hx
              rcases hloc1 with h | h
              · left; rw [hF.2, h]; simp
              · right; simp only [hp_alloc_size]; omega⟩
          have H9 := Lib.hid (h9.third.drop)
          clear h9 hown1 hW1 hF1 hloc1
          go_wp2
          go_roundw
          case rel =>
            refine ⟨k + 1, ds ++ [⟨2, cn, ck, cv⟩], by go_num, by omega, by simp; omega, fun c hc => ?_, ?_⟩
            · rw [List.mem_append] at hc
              rcases hc with hc | hc
              · exact Hgood.out c hc
              · simp at hc; subst hc; exact Hgd.out
            · have e : ((ds ++ [(⟨2, cn, ck, cv⟩ : Cl)]).map clCells).flatten = (ds.map clCells).flatten ++ clCells ⟨2, cn, ck, cv⟩ := by simp
              rw [e, List.length_append]
              exact H9.out
          case measure => simp [intOf]; omega
        · have hb : (x == 0) = false := by simpa using hx0
          obtain rfl := wSigned_else hr hx0
          clear hcall hr hx0
          go_wp2_with fail
          refine HC.out.mono ?_
          rintro e w2 ⟨rfl, h⟩
          have hk2 := h.swap.blk
          have k0 := heap_eq_cell hk2 0
          have H2 := Lib.hid (h.swap.drop.swap)
          clear h hk2 HC
          go_wp2
          go_roundw
          case rel => exact ⟨k + 1, ds, by go_num, by omega, by omega, Hgood.out, H2.out⟩
          case measure => simp [intOf]; omega
      · -- no kind
        have hn0 : (kd == 0) = false := by simpa using h0
        have hn1 : (kd == 1) = false := by simpa using h1
        have hn2 : (kd == 2) = false := by simpa using h2
        clear h0 h1 h2
        go_wp2
        go_roundw
        case rel => exact ⟨k + 1, ds, by go_num, by omega, by omega, Hgood.out, H1.out.swap.drop.swap⟩
        case measure => simp [intOf]; omega
    · obtain rfl : k = l.length := by omega
      go_wp2_with fail
      refine (has_wBytes HH.out.swap).mono ?_
      rintro e w2 ⟨v1, rfl, h⟩
      have hwl := h.swap
      have hpl := pack_length (encs ds)
      have hwl2 := has_wLen hwl
      have hr1 := Reads.of_owns h.row
      have hc1 := has_newRd h hr1 (by omega) (pack_lt _)
      have HC1 := Lib.hid hc1
      clear h hwl hpl hwl2 hr1 hc1
      go_wp2_with fail
      refine HC1.out.mono ?_
      rintro e w3 ⟨r, rfl, h⟩
      have H3 := Lib.hid (h.fourth.swap.third.drop.third.drop)
      clear h
      obtain ⟨z, hz8, hz⟩ := unpack_pack (encs ds)
      have Hz := Lib.hid hz
      clear hz
      have hds4 : ds.length ≤ 400 := by omega
      clear hds
      go_wp2_with fail
      go_loopw [81] (fun x wl => ∃ (j : Nat), x = .int .i64 j ∧ j ≤ ds.length ∧ Has W wl [rd r (pack (encs ds)) (encs (ds.take j)).length, row 35 4 (.slice da ds.length dc) ds.length (ds.map clCells).flatten]) (fun x _ => ds.length - (intOf x).toNat)
      case atStart => exact ⟨0, rfl, by omega, H3.out⟩
      case round =>
        obtain ⟨j, rfl, hj, hR⟩ := hrel
        have HR := Lib.hid hR
        clear hR
        by_cases hlt2 : j < ds.length
        · obtain ⟨⟨kd, cn, ck, cv⟩, hx⟩ : ∃ x, ds[j]? = some x := ⟨_, List.getElem?_eq_getElem hlt2⟩
          obtain ⟨f0, f1, f2, f3⟩ := cls_get hx
          simp only at f0 f1 f2 f3
          rw [Nat.mul_comm] at f0 f1 f2 f3
          have hrow := HR.out.swap.row
          obtain ⟨_, _, hva, hda, _⟩ := owns_form hrow
          cases hva
          obtain ⟨g2, rfl⟩ := hda (by omega)
          have e0 := owns_cell hrow rfl f0
          have e1 := owns_cell hrow rfl f1
          have e2 := owns_cell hrow rfl f2
          have e3 := owns_cell hrow rfl f3
          have hgr := owns_lt hrow rfl
          have hgd := Hgood.out _ (List.mem_of_getElem? hx)
          obtain ⟨post, hp1, hp2⟩ := encs_split hx
          have hun : unpack (pack (encs ds)) = encs (ds.take j) ++ (enc ⟨kd, cn, ck, cv⟩ ++ (post ++ List.replicate z false)) := by rw [Hz.out, hp1]; simp
          have hp2 := congrArg List.length hp2
          rw [List.length_append] at hp2
          have Hun := Lib.hid hun
          have Hp2 := Lib.hid hp2
          have Hgd := Lib.hid hgd
          have H4 := Lib.hid ((HR.out.newBlk (.cells #[.int .i64 kd, .int .i64 cn, .int .i64 ck, .int .u64 cv] 35)).swap)
          clear hx f0 f1 f2 f3 hrow hda hgd hp1 hp2 hun
          rcases Hgd.out with ⟨h0, h1, h2, h3⟩ | ⟨h0, h1, h2⟩ | ⟨h0, h1, h2⟩
          · simp only at h0 h1 h2 h3
            subst h0
            have hrd := rBits_enc (pre := encs (ds.take j)) (post := post ++ List.replicate z false) (v := cv) (n := cn) h1 h2 h3
            rw [show encs (ds.take j) ++ (digits cv cn.toNat ++ (post ++ List.replicate z false)) = unpack (pack (encs ds)) from Hun.out.symm] at hrd
            have hcall := has_rBits H4.out cn hrd
            have HC := Lib.hid hcall
            have hp2 := Hp2.out
            have hp3 : (encs (ds.take j)).length + cn.toNat = (encs (ds.take (j + 1))).length := by rw [hp2]; show _ = _ + (digits cv cn.toNat).length; rw [digits_length]
            rw [hp3] at HC
            clear hrd hcall hp2 hp3 h1 h2 h3
            go_wp2_with fail
            refine HC.out.mono ?_
            rintro e w4 ⟨rfl, h⟩
            have hk2 := h.swap.blk
            have k0 := heap_eq_cell hk2 0
            have k1 := heap_eq_cell hk2 1
            have k2 := heap_eq_cell hk2 2
            have k3 := heap_eq_cell hk2 3
            have H5 := Lib.hid (h.swap.drop)
            clear h hk2
            go_wp2
            go_roundw
            case rel => exact ⟨j + 1, by go_num, by omega, H5.out⟩
            case measure => simp [intOf]; omega
          · simp only at h0 h1 h2 
            subst h0
            have hrd := rGamma_enc (pre := encs (ds.take j)) (post := post ++ List.replicate z false) (m := ck.toNat + 1) (by omega) (by omega)
            rw [show encs (ds.take j) ++ (gcode (ck.toNat + 1) ++ (post ++ List.replicate z false)) = unpack (pack (encs ds)) from Hun.out.symm, show (((ck.toNat + 1 : Nat) : Int) - 1) = ck by omega] at hrd
            have hcall := has_rGamma H4.out hrd
            have HC := Lib.hid hcall
            have hp2 := Hp2.out
            have hp3 : (encs (ds.take j)).length + (2 * (ck.toNat + 1).log2 + 1) = (encs (ds.take (j + 1))).length := by rw [hp2]; show _ = _ + (gcode (ck.toNat + 1)).length; rw [gcode_length]
            rw [hp3] at HC
            clear hrd hcall hp2 hp3 h1 h2
            go_wp2_with fail
            refine HC.out.mono ?_
            rintro e w4 ⟨rfl, h⟩
            have hk2 := h.swap.blk
            have k0 := heap_eq_cell hk2 0
            have k1 := heap_eq_cell hk2 1
            have k2 := heap_eq_cell hk2 2
            have k3 := heap_eq_cell hk2 3
            have H5 := Lib.hid (h.swap.drop)
            clear h hk2
            go_wp2
            go_roundw
            case rel => exact ⟨j + 1, by go_num, by omega, H5.out⟩
            case measure => simp [intOf]; omega
          · simp only at h0 h1 h2 
            subst h0
            have hrd := rSigned_enc (pre := encs (ds.take j)) (post := post ++ List.replicate z false) (k := ck) h1 h2
            rw [show encs (ds.take j) ++ (gcode ((fold ck).toNat + 1) ++ (post ++ List.replicate z false)) = unpack (pack (encs ds)) from Hun.out.symm] at hrd
            have hcall := has_rSigned H4.out hrd
            have HC := Lib.hid hcall
            have hp2 := Hp2.out
            have hp3 : (encs (ds.take j)).length + (2 * ((fold ck).toNat + 1).log2 + 1) = (encs (ds.take (j + 1))).length := by rw [hp2]; show _ = _ + (gcode ((fold ck).toNat + 1)).length; rw [gcode_length]
            rw [hp3] at HC
            clear hrd hcall hp2 hp3 h1 h2
            go_wp2_with fail
            refine HC.out.mono ?_
            rintro e w4 ⟨rfl, h⟩
            have hk2 := h.swap.blk
            have k0 := heap_eq_cell hk2 0
            have k1 := heap_eq_cell hk2 1
            have k2 := heap_eq_cell hk2 2
            have k3 := heap_eq_cell hk2 3
            have H5 := Lib.hid (h.swap.drop)
            clear h hk2
            go_wp2
            go_roundw
            case rel => exact ⟨j + 1, by go_num, by omega, H5.out⟩
            case measure => simp [intOf]; omega
        · obtain rfl : j = ds.length := by omega
          have he : rEnd (unpack (pack (encs ds))) (encs (ds.take ds.length)).length = true := by rw [List.take_length, Hz.out]; exact rEnd_zeros hz8
          have He := Lib.hid he
          clear he
          go_wp2_with fail
          refine (has_rEnd HR.out).mono ?_
          rintro e w4 ⟨rfl, hd4⟩
          rw [He.out]
          have H4 := Lib.hid (HR.out.drew hd4)
          clear hd4
          go_wp2_with fail
          refine (awake_calls H4.out).mono ?_
          rintro e w5 ⟨rfl, h⟩
          have H5 := Lib.hid h.fr
          clear h
          go_wp2
          go_ret
          exact ⟨rfl, H5.out⟩
end Go.Proofs.Ytfcihdicbncoaaa
