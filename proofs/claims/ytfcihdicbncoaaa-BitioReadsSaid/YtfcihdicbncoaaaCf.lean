/- The reference's reader: Extend, NewReader. -/
import Derived.Test.YtfcihdicbncoaaaCe
namespace Go.Proofs.Ytfcihdicbncoaaa
open Go Go.RowKit Go.Proofs.Rg Go.Proofs.Hp Go.Proofs.Bp
set_option maxHeartbeats 4000000 in
theorem Extend_calls {w : World} {base n : Nat} {v lv : Value} {xs l : List Bool} (hown : w.ownsRow base 4 1 v n (bos xs)) (hl : Reads w lv l.length 1 (bos l)) (hd : ∀ g, lv.ownBlock = some g → v.ownBlock ≠ some g) (hn : n ≤ 1000000) (hll : l.length ≤ 1000) (hb : base ≤ w.heap.size) :
    Calls Try.prog 38 #[v, lv] w fun e w' => ∃ v', e = .returned v' ∧ w'.ownsRow base 4 1 v' (n + l.length) (bos (xs ++ l)) ∧ Fr v.ownBlock.toList w w' ∧ ∀ g, v'.ownBlock = some g → v.ownBlock = some g ∨ w.heap.size ≤ g := by
  obtain ⟨_, a1, c1, rfl, ha1⟩ := hl
  have Ha1 := Lib.hid ha1
  have Hown := Lib.hid hown
  have Hd := Lib.hid hd
  clear ha1 hown hd
  go_enter Try.func38, Try.ntmps38
  go_wp2
  go_loopw [0, 5] (fun o x wl => ∃ (k : Nat), x = .int .i64 k ∧ k ≤ l.length ∧ wl.ownsRow base 4 1 o (n + k) (bos (xs ++ l.take k)) ∧ Fr v.ownBlock.toList w wl ∧ ∀ g, o.ownBlock = some g → v.ownBlock = some g ∨ w.heap.size ≤ g) (fun _ x _ => l.length - (intOf x).toNat)
  case atStart => exact ⟨0, rfl, by omega, by simpa using Hown.out, Fr.refl _ _, fun g h => .inl h⟩
  case round =>
    obtain ⟨k, rfl, hk, ho, hf, hs⟩ := hrel
    obtain ⟨oa, oc, rfl, _, _⟩ := owns_form ho
    have Ho := Lib.hid ho
    have Hf := Lib.hid hf
    have Hs := Lib.hid hs
    have hsz := hf.size
    by_cases hlt : k < l.length
    · obtain ⟨g1, off1, rfl, hg1, hc1⟩ := Ha1.out (by omega)
      obtain ⟨bt, hbt⟩ : ∃ x, l[k]? = some x := ⟨_, List.getElem?_eq_getElem hlt⟩
      have e1 := (hf.cell (p := ⟨g1, off1 + k, none⟩) hg1 (fun h => Hd.out g1 rfl (by simpa using h))).trans (hc1 k (.bool bt) (by rw [bos, List.getElem?_map, hbt]; rfl))
      have hsn : bos (xs ++ l.take k) ++ [.bool bt] = bos (xs ++ l.take (k + 1)) := by rw [List.take_add_one, hbt, ← bos_snoc, List.append_assoc]; rfl
      have Hsn := Lib.hid hsn
      have hg1r : g1 < wr.heap.size := by omega
      clear hc1 hbt hsn ho hf hs
      go_wp2_with (at_builtin; refine append_bo (n := n + k) (base := base) (xs := bos (xs ++ l.take k)) (y := bt) rfl rfl rfl ?e1 rfl ?e2 ?e3 ?e4 ?_)
      case e1 => exact owns_of_block Ho.out fun y hy => heap_alloc_else _ _ _ (owns_lt Ho.out hy)
      case e2 => (first | (rw [hp_alloc, if_pos rfl]; done) | exact (Array.getElem?_eq_some_iff.1 ((hp_alloc _ _ _).trans (if_pos rfl))).2 | (simp only [hp_drew, hp_drewN]; rw [hp_alloc, if_pos rfl]; done))
      case e3 => omega
      case e4 => (first | omega | (rw [hp_alloc_size]; omega) | (simp only [hp_drew, hp_drewN, hp_alloc_size]; omega) | (simp; omega))
      intro g cap w9 hown1 hW1 hF1 hloc1 hg9
      rw [Hsn.out] at hown1
      have Hown1 := Lib.hid hown1
      have Hf1 := Lib.hid ((Hf.out.alloc _).trans hF1 fun x hx => by
        rcases Hs.out x (by simpa using hx) with h | h
        · exact .inl (by simp [h])
        · exact .inr h)
      have hsg : ∀ g', (Value.slice (some ⟨g, 0, none⟩) (n + k + 1) cap).ownBlock = some g' → v.ownBlock = some g' ∨ w.heap.size ≤ g' := fun g' hg' => by
        have : g = g' := by simpa [Value.ownBlock] using hg'
        subst this
        rcases hloc1 with h | h
        · exact Hs.out g h
        · right; (first | omega | (simp only [hp_drew, hp_drewN, hp_alloc_size]; omega) | (simp; omega))
      have Hsg := Lib.hid hsg
      clear hown1 hW1 hF1 hloc1 hsg
      go_wp2
      go_roundw
      case rel => exact ⟨k + 1, by go_num, by omega, Hown1.out, Hf1.out, Hsg.out⟩
      case measure => simp [intOf]; omega
    · obtain rfl : k = l.length := by omega
      clear ho hf hs
      go_wp2
      go_ret
      refine ⟨_, rfl, ?_, Hf.out, Hs.out⟩
      have := Ho.out
      rwa [List.take_length] at this
/-- the reference's reader at block b -/
structure RrIn (w : World) (b : Nat) (bs : List Bool) (p : Nat) (v : Value) : Prop where
  blk : w.heap[b]? = some (.cells #[v, .int .i64 p] 65 (0, 0))
  row : w.ownsRow 0 4 1 v bs.length (bos bs)
  ne : v.ownBlock ≠ some b
def RrAt (w : World) (b : Nat) (bs : List Bool) (p : Nat) (F : List Nat) : Prop := bs.length ≤ 524288 ∧ p ≤ bs.length ∧ ∃ v, RrIn w b bs p v ∧ F = b :: v.ownBlock.toList
theorem RrAt.keep {w w' : World} {b p : Nat} {bs : List Bool} {F : List Nat} (h : RrAt w b bs p F) (hk : ∀ x ∈ F, w'.heap[x]? = w.heap[x]?) : RrAt w' b bs p F := by
  obtain ⟨h1, h2, v, hI, rfl⟩ := h
  exact ⟨h1, h2, v, ⟨(hk b (by simp)).trans hI.blk, owns_of_block hI.row fun g hg => hk g (by simp [hg]), hI.ne⟩, rfl⟩
theorem RrAt.lt {w : World} {b p : Nat} {bs : List Bool} {F : List Nat} (h : RrAt w b bs p F) : ∀ x ∈ F, x < w.heap.size := by
  obtain ⟨_, _, v, hI, rfl⟩ := h
  intro x hx
  simp only [List.mem_cons, Option.mem_toList] at hx
  rcases hx with rfl | hx
  · exact lt_of_block hI.blk
  · exact owns_lt hI.row hx
theorem RrAt.fr {w w' : World} {b p : Nat} {bs : List Bool} {F G : List Nat} (h : RrAt w b bs p F) (hf : Fr G w w') (hd : ∀ x ∈ F, x ∉ G) : RrAt w' b bs p F := h.keep fun x hx => hf.block x (h.lt x hx) (hd x hx)
theorem RrAt.drew {w w' : World} {b p : Nat} {bs : List Bool} {F : List Nat} (h : RrAt w b bs p F) (hd : Drew w w') : RrAt w' b bs p F := h.keep fun x _ => by rw [hd.heap]
set_option maxHeartbeats 8000000 in
set_option maxRecDepth 100000 in
theorem RNewReader_calls {w : World} {v : Value} {L : List Nat} (hv : Reads w v L.length 1 (u8s L)) (hL : L.length ≤ 65536) (h256 : ∀ x ∈ L, x < 256) :
    Calls Try.prog 21 #[v] w fun e w' => ∃ b F, e = .returned (.tuple #[.pointer (some ⟨b, 0, none⟩), .int .i64 0]) ∧ RrAt w' b (unpack L) 0 F ∧ Fr [] w w' ∧ ∀ x ∈ F, w.heap.size ≤ x := by
  obtain ⟨_, a, c, rfl, ha⟩ := hv
  have Ha := Lib.hid ha
  have H256 := Lib.hid h256
  have hd : decide ((65536 : Int) < (L.length : Int)) = false := by simp; omega
  clear ha h256
  go_enter Try.func21, Try.ntmps21
  go_wp2
  go_loopw [5] (fun x wl => ∃ (k : Nat) (dv : Value), x = .int .i64 k ∧ k ≤ L.length ∧ wl.heap[w.heap.size]? = some (.cells #[dv, .int .i64 0] 65 (0, 0)) ∧ wl.ownsRow (w.heap.size + 1) 4 1 dv (8 * k) (bos (unpack (L.take k))) ∧ Fr [] w wl) (fun x _ => L.length - (intOf x).toNat)
  case atStart => exact ⟨0, .slice none 0 0, rfl, by omega, by (repeat (first | rw [if_pos (by omega)] | rw [if_neg (by omega)] | rw [hp_drew] | rw [hp_drewN] | rw [hp_alloc_size] | rw [hp_setCell_size] | rw [hp_alloc] | rw [hp_setCell] | rw [Option.map_some] | rw [upd_cells] | rw [List.set_cons_zero] | rw [List.set_cons_succ] | rfl)), World.ownsRow_nil _ _ _ _, by (repeat (first | exact Fr.refl _ _ | assumption | apply Fr.drewN | apply Fr.drew | apply Fr.alloc | refine Fr.setCell ?_ (Or.inr (by simp; try omega)) _))⟩
  case round =>
    obtain ⟨k, dv, rfl, hk, hb, ho, hf⟩ := hrel
    obtain ⟨da, dc, rfl, _, _⟩ := owns_form ho
    have b0 := heap_eq_cell hb 0
    have hsz := lt_of_block hb
    have Hb := Lib.hid hb
    have Ho := Lib.hid ho
    have Hf := Lib.hid hf
    by_cases hlt : k < L.length
    · obtain ⟨g1, off1, rfl, hg1, hc1⟩ := Ha.out (by omega)
      obtain ⟨y, hy⟩ : ∃ x, L[k]? = some x := ⟨_, List.getElem?_eq_getElem hlt⟩
      have hy256 : y < 256 := H256.out y (List.mem_of_getElem? hy)
      have e1 := (hf.cell (p := ⟨g1, off1 + k, none⟩) hg1 (by simp)).trans (hc1 k (.int .u8 y) (by rw [u8s, List.getElem?_map, hy]; rfl))
      have hg1r : g1 < wr.heap.size := by have := hf.size; omega
      have htk : unpack (L.take (k + 1)) = unpack (L.take k) ++ digits y 8 := by rw [List.take_add_one, hy]; exact unpack_snoc _ _
      have Htk := Lib.hid htk
      have hw8 : IntKind.u64.wrap (y : Int) = y := IntWalk.u64_in _ (by omega)
      have hD : Calls Try.prog 39 #[.int .u64 y, .int .i64 8] wr.drew (RowPost wr.drew 4 8 (bos (digits y 8))) := Digits_calls (n := 8) (by omega) (by omega)
      have HD := Lib.hid hD
      clear hb ho hf hc1 hy htk hD
      go_wp2
      refine wp_region_segs [([0, 1, 2, 3, 4, 5, 6, 7, 8, 9, 10], [4]), ([11, 12, 13, 14], [])] (by kernel_rfl) (by kernel_rfl) ?_
      (simp only [wpSegs, pick, Array.getD_eq_getD_getElem?, List.getElem?_toArray, List.getElem?_cons_succ, List.getElem?_cons_zero, Option.getD_some])
      go_wp2_with fail
      refine HD.out.mono ?_
      rintro e w2 ⟨v2, rfl, ho2, hf2⟩
      have hf2' : Fr [] wr w2 := (Fr.refl _ _).drew.trans0 hf2
      have hb2 := (hf2'.block _ (lt_of_block Hb.out) (by simp)).trans Hb.out
      have c0 := heap_eq_cell hb2 0
      have d0 := heap_eq_frozen hb2 0
      have hb2l := lt_of_block hb2
      have hown2 := owns_of_block Ho.out fun y hy => hf2'.block y (owns_lt Ho.out hy) (by simp)
      have hE := Extend_calls (l := digits y 8) hown2 (by rw [digits_length]; exact Reads.of_owns ho2) (fun g hg hg' => by
        have h1 := owns_ge ho2 hg
        have h2 := owns_lt Ho.out hg'
        have h3 : wr.heap.size ≤ g := h1
        omega) (by omega) (by rw [digits_length]; omega) (by have := hf2'.size; omega)
      rw [digits_length, ← Htk.out] at hE
      have HE := Lib.hid hE
      have Hf2 := Lib.hid (Hf.out.trans0 hf2')
      have Hb2 := Lib.hid hb2
      have hgb : (Value.slice da (8 * k) dc).ownBlock ≠ some w.heap.size := fun h => by have := owns_ge Ho.out h; omega
      have hge := fun g (h : (Value.slice da (8 * k) dc).ownBlock = some g) => owns_ge Ho.out h
      have Hgb := Lib.hid hgb
      have Hge := Lib.hid hge
      clear ho2 hf2 hf2' hb2 hown2 hE hgb hge b0 e1
      go_wp2
      refine Mid.intro ⟨⟨again_cell (T := 27) rfl rfl rfl Try.underlying27 rfl c0 rfl, trivial⟩, ?_⟩
      go_wp2_with fail
      refine HE.out.mono ?_
      rintro e w3 ⟨v3, rfl, ho3, hf3, hs3⟩
      obtain ⟨ea, ec, rfl, _, _⟩ := owns_form ho3
      have hb3 := (hf3.block _ (lt_of_block Hb2.out) (fun h => Hgb.out (by simpa using h))).trans Hb2.out
      have o0 := heap_eq_cell hb3 0
      have p0 := heap_eq_frozen hb3 0
      have hb3l := lt_of_block hb3
      have Hb3 := Lib.hid hb3
      have Ho3 := Lib.hid ho3
      have Hf3 := Lib.hid (Hf2.out.trans hf3 fun x hx => .inr (by have := Hge.out x (by simpa using hx); omega))
      clear hb3 ho3 hf3 hs3 c0 d0
      go_wp2
      refine Mid.intro ⟨trivial, Strict.intro rfl ?_⟩
      go_wp2
      go_roundw
      case rel =>
        refine ⟨k + 1, .slice ea (8 * k + 8) ec, by go_num, by omega, ?_, ?_, ?_⟩
        · (repeat (first | rw [if_pos (by omega)] | rw [if_neg (by omega)] | rw [hp_drew] | rw [hp_drewN] | rw [hp_alloc_size] | rw [hp_setCell_size] | rw [hp_alloc] | rw [hp_setCell] | rw [Option.map_some] | rw [upd_cells] | rw [List.set_cons_zero] | rw [List.set_cons_succ] | rfl))
          rw [Hb3.out]; rfl
        · show World.ownsRow _ _ _ _ _ (8 * (k + 1)) _
          rw [show 8 * (k + 1) = 8 * k + 8 by omega]
          refine owns_of_block Ho3.out fun y hy => ?_
          have := owns_ge Ho3.out hy
          rw [hp_setCell, if_neg (by omega)]
        · exact Hf3.out.setCell (.inr (by simp)) _
      case measure => simp [intOf]; omega
    · obtain rfl : k = L.length := by omega
      clear hb ho hf
      go_wp2
      go_ret2
      have hb := Hb.out
      have ho := Ho.out
      rw [List.take_length] at ho
      refine ⟨w.heap.size, w.heap.size :: (Value.slice da (8 * L.length) dc).ownBlock.toList, rfl, ⟨by rw [unpack_length]; omega, by omega, _, ⟨hb, ?_, ?_⟩, rfl⟩, Hf.out, ?_⟩
      · rw [unpack_length]; exact owns_base ho (Nat.zero_le _)
      · intro e; have := owns_ge ho e; omega
      · intro x hx
        simp only [List.mem_cons, Option.mem_toList] at hx
        rcases hx with rfl | hx
        · omega
        · have := owns_ge ho hx; omega
end Go.Proofs.Ytfcihdicbncoaaa
