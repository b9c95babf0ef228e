/- The reader of package bitio in the heap: bit, number, Left, Bits; Clone of bytes; a writer's Bytes. -/
import Derived.Test.YtfcihdicbncoaaaBv
import Derived.Test.YtfcihdicbncoaaaRd
namespace Go.Proofs.Ytfcihdicbncoaaa
open Go Go.RowKit Go.Proofs.Rg Go.Proofs.Hp Go.Proofs.Bp
/-- a call that hands back a new slice -/
def RowPost (w : World) (T n : Nat) (xs : List Value) (e : Ending) (w' : World) : Prop := ∃ v, e = .returned v ∧ w'.ownsRow w.heap.size T 1 v n xs ∧ Fr [] w w'
theorem u8s_one (l : List Nat) : ∀ u ∈ u8s l, u.oneCell' = true := by
  intro u hu
  simp only [u8s, List.mem_map] at hu
  obtain ⟨k, _, rfl⟩ := hu
  rfl
set_option maxHeartbeats 1000000 in
theorem Clone_u8 {w : World} {v : Value} {n : Nat} {xs : List Value} (hv : Reads w v n 1 xs) (h1 : ∀ u ∈ xs, u.oneCell' = true) (hn : n ≤ 4398046511096) :
    Calls Try.prog 33 #[v] w (RowPost w 5 n xs) := by
  obtain ⟨hx, a, c, rfl, hc⟩ := hv
  cases a with
  | none =>
    have h0 : n = 0 := by
      rcases Nat.eq_zero_or_pos n with h | h
      · exact h
      · obtain ⟨g, off, h2, _⟩ := hc h
        cases h2
    subst h0
    have hxs : xs = [] := List.eq_nil_of_length_eq_zero (by simpa using hx)
    subst hxs
    have hnil := fun w : World => Lib.run_eql_slice_nil (P := Try.prog) w 24 5 none 0 c 0 0 Try.underlying24
    clear hc h1 hx
    go_enter Try.func33, Try.ntmps33
    go_wp2
    go_ret
    exact ⟨_, rfl, World.ownsRow_nil _ _ _ _, Fr.refl _ _⟩
  | some ad =>
    have hnil := fun w : World => Lib.run_eql_slice_nil (P := Try.prog) w 24 5 (some ad) n c 0 0 Try.underlying24
    obtain ⟨i0, hi0, hi1, hi2, hi3⟩ := info_parts info_u8
    have Hx := Lib.hid hx
    have Hc := Lib.hid hc
    have H1 := Lib.hid h1
    clear hx hc h1
    go_enter Try.func33, Try.ntmps33
    go_wp2_with (at_builtin; refine wpList_append_own_at _ rfl _ _ 24 rfl w.heap.size 5 i0 _ 1 1 Try.underlying24 hi0 hi1 hi2 hi3 rfl (by decide) _ 0 [] rfl ?e1 ad n c xs rfl Hx.out ?e2 H1.out ?e3 ?e4 ?e5 ?_)
    case e1 => exact ⟨rfl, .inr ⟨w.heap.size, 0, #[], rfl, Nat.le_refl _, by rw [hp_alloc, if_pos rfl], Nat.le_refl _, Nat.zero_le _, rfl, rfl⟩⟩
    case e2 =>
      intro j u hj
      have hjl := (List.getElem?_eq_some_iff.1 hj).1
      have hxl := Hx.out
      obtain ⟨g, off, h2, hg, hcc⟩ := Hc.out (by omega)
      cases h2
      have := hcc j u hj
      have ha : (⟨g, off, none⟩ : Addr).add j = ⟨g, off + j, none⟩ := by
        unfold Addr.add
        split
        · rename_i h0; rw [h0]; rfl
        · rfl
      rw [ha, World.cell?_alloc_past _ _ _ hg]
      exact this
    case e3 => unfold maxLen; omega
    case e4 => omega
    case e5 => rw [hp_alloc_size]; omega
    intro v' w1 hown hgrow _ hloc
    try simp only [Nat.zero_add, List.nil_append] at hown
    go_wp2
    go_ret
    exact ⟨v', rfl, hown, ((Fr.refl _ _).alloc _).grown hgrow (by intro x hx; simp [Value.ownBlock] at hx; omega)⟩
set_option maxHeartbeats 1000000 in
theorem Bytes_calls {w : World} {b : Nat} {bs : List Bool} {F : List Nat} (hW : WAt w b bs F) :
    Calls Try.prog 13 #[.pointer (some ⟨b, 0, none⟩)] w (RowPost w 5 (pack bs).length (u8s (pack bs))) := by
  obtain ⟨hlen, v0, hI, rfl⟩ := hW
  have b0 := heap_eq_cell hI.blk 0
  have hpl := pack_length bs
  have hC := Clone_u8 (Reads.of_owns hI.row) (u8s_one _) (by omega)
  have HC := Lib.hid hC
  clear hI hC hpl
  go_enter Try.func13, Try.ntmps13
  go_wp2_with fail
  refine HC.out.mono ?_
  rintro e w1 ⟨v, rfl, h⟩
  have H := Lib.hid h
  clear h
  go_wp2
  go_ret
  exact ⟨v, rfl, H.out⟩
theorem bitn_u64 {v j : Nat} (hv : v < 18446744073709551616) : bits BinOp.and IntKind.u64 ((v : Int) / 2 ^ j) 1 = (v.testBit j).toNat := by
  have h := bit_u64 (j := j) hv
  have h1 : ((v : Int) / 2 ^ j) = ((v / 2 ^ j : Nat) : Int) := by simp
  have h2 : v / 2 ^ j < 18446744073709551616 := Nat.lt_of_le_of_lt (Nat.div_le_self _ _) hv
  have h3 := bits_and_u64_nat (v / 2 ^ j) 1 h2 (by omega)
  rw [Nat.and_one_is_mod] at h3
  rw [h1] at h ⊢
  rw [show (1 : Int) = ((1 : Nat) : Int) from rfl, h3] at h ⊢
  cases hb : v.testBit j
  · rw [hb] at h
    simp at h
    show _ = ((0 : Nat) : Int)
    omega
  · rw [hb] at h
    simp at h
    show _ = ((1 : Nat) : Int)
    omega
/-! ### The reader -/
structure RdIn (w : World) (b : Nat) (L : List Nat) (p : Nat) (v : Value) : Prop where
  blk : w.heap[b]? = some (.cells #[v, .int .i64 p] 61 (0, 0))
  row : w.ownsRow 0 5 1 v L.length (u8s L)
  ne : v.ownBlock ≠ some b
def RdAt (w : World) (b : Nat) (L : List Nat) (p : Nat) (F : List Nat) : Prop := L.length ≤ 65536 ∧ p ≤ 8 * L.length ∧ (∀ x ∈ L, x < 256) ∧ ∃ v, RdIn w b L p v ∧ F = b :: v.ownBlock.toList
theorem RdAt.keep {w w' : World} {b p : Nat} {L : List Nat} {F : List Nat} (h : RdAt w b L p F) (hk : ∀ x ∈ F, w'.heap[x]? = w.heap[x]?) : RdAt w' b L p F := by
  obtain ⟨h1, h2, h3, v, hI, rfl⟩ := h
  exact ⟨h1, h2, h3, v, ⟨(hk b (by simp)).trans hI.blk, owns_of_block hI.row fun g hg => hk g (by simp [hg]), hI.ne⟩, rfl⟩
theorem RdAt.lt {w : World} {b p : Nat} {L : List Nat} {F : List Nat} (h : RdAt w b L p F) : ∀ x ∈ F, x < w.heap.size := by
  obtain ⟨_, _, _, v, hI, rfl⟩ := h
  intro x hx
  simp only [List.mem_cons, Option.mem_toList] at hx
  rcases hx with rfl | hx
  · exact lt_of_block hI.blk
  · exact owns_lt hI.row hx
theorem RdAt.fr {w w' : World} {b p : Nat} {L : List Nat} {F G : List Nat} (h : RdAt w b L p F) (hf : Fr G w w') (hd : ∀ x ∈ F, x ∉ G) : RdAt w' b L p F := h.keep fun x hx => hf.block x (h.lt x hx) (hd x hx)
theorem RdAt.drew {w w' : World} {b p : Nat} {L : List Nat} {F : List Nat} (h : RdAt w b L p F) (hd : Drew w w') : RdAt w' b L p F := h.keep fun x _ => by rw [hd.heap]
set_option maxHeartbeats 1000000 in
theorem bit_calls {w : World} {b p : Nat} {L : List Nat} {F : List Nat} (hR : RdAt w b L p F) {k : Nat} (hk : k < 8 * L.length) :
    Calls Try.prog 36 #[.pointer (some ⟨b, 0, none⟩), .int .i64 k] w fun e w' => e = .returned (.int .u64 (bitAt L k).toNat) ∧ w = w' := by
  obtain ⟨h1, h2, h3, v, hI, rfl⟩ := hR
  obtain ⟨na, nc, rfl, hna, _⟩ := owns_form hI.row
  obtain ⟨g, rfl⟩ := hna (by omega)
  have b0 := heap_eq_cell hI.blk 0
  obtain ⟨j, r, rfl, hr8⟩ : ∃ j r, k = 8 * j + r ∧ r < 8 := ⟨k / 8, k % 8, by omega, by omega⟩
  obtain ⟨y, hy⟩ : ∃ y, L[j]? = some y := ⟨_, List.getElem?_eq_getElem (by omega)⟩
  have hy256 : y < 256 := h3 y (List.mem_of_getElem? hy)
  have e0 := owns_cell hI.row rfl (j := j) (u := .int .u8 y) (by rw [u8s, List.getElem?_map, hy]; rfl)
  have hjl : j < L.length := by omega
  have hd8 : (((8 * j + r : Nat) : Int)) / 8 = j := by omega
  have hm8 : (((8 * j + r : Nat) : Int)) % 8 = r := by omega
  have hbit : bitAt L (8 * j + r) = y.testBit (7 - r) := by
    unfold bitAt
    rw [show (8 * j + r) / 8 = j by omega, show (8 * j + r) % 8 = r by omega, List.getD_eq_getElem?_getD, hy]; rfl
  generalize (8 * j + r) = k at *
  have Hbit := Lib.hid hbit
  clear hy h3 hI hna hbit
  go_enter Try.func36, Try.ntmps36
  go_wp2
  go_ret
  refine ⟨?_, rfl⟩
  rw [Hbit.out]
  exact congrArg (fun x => Ending.returned (.int .u64 x)) (bitn_u64 (by omega))
theorem or1_u64 {v : Nat} (hv : v < 9223372036854775808) (b : Bool) : bits BinOp.or IntKind.u64 (IntKind.u64.wrap ((v : Int) * 2)) (b.toNat : Nat) = ((2 * v + b.toNat : Nat) : Int) := by
  have hb : b.toNat < 2 ^ 1 := by cases b <;> decide
  rw [IntWalk.u64_in _ (by omega), show (v : Int) * 2 = ((2 * v : Nat) : Int) by omega, bits_or_u64_nat _ _ (by omega) (by omega)]
  have := Nat.shiftLeft_add_eq_or_of_lt hb v
  rw [Nat.shiftLeft_eq, Nat.mul_comm] at this
  rw [← this]
theorem sub_bits {L : List Nat} {p k : Nat} (h : p + k < 8 * L.length) : ((unpack L).drop p).take (k + 1) = ((unpack L).drop p).take k ++ [bitAt L (p + k)] := by
  rw [List.take_add_one, List.getElem?_drop, unpack_get _ h]; rfl
set_option maxHeartbeats 1000000 in
theorem number_calls {w : World} {b q : Nat} {L : List Nat} {F : List Nat} (hR : RdAt w b L q F) {p n : Nat} (hn : n ≤ 64) (hp : p + n ≤ 8 * L.length) :
    Calls Try.prog 37 #[.pointer (some ⟨b, 0, none⟩), .int .i64 p, .int .i64 n] w fun e w' => e = .returned (.int .u64 (num (((unpack L).drop p).take n))) ∧ w = w' := by
  have HR := Lib.hid hR
  have hl : L.length ≤ 65536 := hR.1
  have Hp := Lib.hid hp
  have hp2 : p ≤ 524288 := by omega
  clear hR hp hl
  go_enter Try.func37, Try.ntmps37
  go_wp2
  go_loopw [7, 10] (fun v x wr => ∃ (k : Nat), x = .int .i64 k ∧ k ≤ n ∧ v = .int .u64 (num (((unpack L).drop p).take k)) ∧ w = wr) (fun _ x _ => n - (intOf x).toNat)
  case atStart => exact ⟨0, rfl, by omega, rfl, rfl⟩
  case round =>
    obtain ⟨k, rfl, hk, rfl, rfl⟩ := hrel
    by_cases hlt : k < n
    · have hb : Calls Try.prog 36 #[.pointer (some ⟨b, 0, none⟩), .int .i64 ((p : Int) + k)] w fun e w' => e = .returned (.int .u64 (bitAt L (p + k)).toNat) ∧ w = w' :=
        bit_calls HR.out (k := p + k) (by have := Hp.out; omega)
      have hs := sub_bits (L := L) (p := p) (k := k) (by have := Hp.out; omega)
      have hlt2 := num_lt (((unpack L).drop p).take k)
      have hlen : (((unpack L).drop p).take k).length = k := by
        have := Hp.out
        rw [List.length_take, List.length_drop, unpack_length]; omega
      rw [hlen] at hlt2
      have hnum := num_snoc (((unpack L).drop p).take k) (bitAt L (p + k))
      rw [← hs] at hnum
      generalize hV : num (((unpack L).drop p).take k) = V at *
      generalize bitAt L (p + k) = bt at *
      have Hb := Lib.hid hb
      have Hnum := Lib.hid hnum
      have Hlt2 := Lib.hid hlt2
      clear hb hs hlen hnum hV hlt2
      go_wp2_with fail
      refine Hb.out.mono ?_
      rintro e w1 ⟨rfl, rfl⟩
      go_wp2
      go_roundw
      case rel =>
        refine ⟨k + 1, by go_num, by omega, ?_, trivial⟩
        rw [Hnum.out]
        refine congrArg (Value.int .u64) (or1_u64 ?_ _)
        have h1 := Hlt2.out
        have h2 : 2 ^ k ≤ 2 ^ 63 := Nat.pow_le_pow_right (by omega) (by omega)
        omega
      case measure => simp [intOf]; omega
    · obtain rfl : k = n := by omega
      go_wp2
      go_ret
      exact ⟨rfl, rfl⟩
def rBits (bs : List Bool) (p : Nat) (n : Int) : (Nat × Int) × Nat :=
  if n < 0 ∨ 64 < n then ((0, 2), p) else if bs.length < p + n.toNat then ((0, 4), p) else ((num ((bs.drop p).take n.toNat), 0), p + n.toNat)
set_option maxHeartbeats 1000000 in
theorem Left_calls {w : World} {b p : Nat} {L : List Nat} {F : List Nat} (hR : RdAt w b L p F) :
    Calls Try.prog 18 #[.pointer (some ⟨b, 0, none⟩)] w fun e w' => e = .returned (.int .i64 ((8 * L.length - p : Nat))) ∧ Drew w w' := by
  obtain ⟨h1, h2, h3, v, hI, rfl⟩ := hR
  obtain ⟨na, nc, rfl, hna, _⟩ := owns_form hI.row
  have b0 := heap_eq_cell hI.blk 0
  have b1 := heap_eq_cell hI.blk 1
  clear hI hna h3
  go_enter Try.func18, Try.ntmps18
  go_wp2
  (refine wp_region_text (by kernel_rfl) (by kernel_rfl) ?_)
  go_wp2
  refine Strict.intro rfl ?_
  go_wp2
  go_ret
  exact ⟨congrArg (fun x => Ending.returned (.int .i64 x)) (by omega), (Drew.refl _).drew⟩
/-- what a read leaves -/
def RdPost (w : World) (b : Nat) (L : List Nat) (p : Nat) (F : List Nat) (w' : World) : Prop := RdAt w' b L p F ∧ Fr F w w'
theorem RdIn.move {w : World} {b p p' : Nat} {L : List Nat} {v : Value} (h : RdIn w b L p v) : RdIn (w.setCell ⟨b, 1, none⟩ (.int .i64 p')) b L p' v where
  blk := by rw [heap_setCell_here h.blk]; rfl
  row := owns_of_block h.row fun x hx => setCell_else _ _ _ (fun e => h.ne (by rw [hx]; exact congrArg some e))
  ne := h.ne
set_option maxHeartbeats 2000000 in
theorem RBits_calls {w : World} {b p : Nat} {L : List Nat} {F : List Nat} (hR : RdAt w b L p F) (n : Int) :
    Calls Try.prog 19 #[.pointer (some ⟨b, 0, none⟩), .int .i64 n] w fun e w' => e = .returned (.tuple #[.int .u64 (rBits (unpack L) p n).1.1, .int .i64 (rBits (unpack L) p n).1.2]) ∧ RdPost w b L (rBits (unpack L) p n).2 F w' := by
  have HR := Lib.hid hR
  have hul := unpack_length L
  by_cases hn : n < 0 ∨ 64 < n
  · have hr : rBits (unpack L) p n = ((0, 2), p) := by unfold rBits; rw [if_pos hn]
    rw [hr]
    clear hR hr hul
    rcases hn with hn | hn
    · go_enter Try.func19, Try.ntmps19
      go_wp2
      go_ret2
      exact ⟨rfl, HR.out, Fr.refl _ _⟩
    · have hn' : ¬ n < 0 := by omega
      go_enter Try.func19, Try.ntmps19
      go_wp2
      go_ret2
      exact ⟨rfl, HR.out, Fr.refl _ _⟩
  obtain ⟨k, rfl⟩ : ∃ k : Nat, n = k := ⟨n.toNat, by omega⟩
  have hl := Left_calls hR
  have HL := Lib.hid hl
  obtain ⟨h1, h2, h3, v, hI, rfl⟩ := hR
  have b1 := heap_eq_cell hI.blk 1
  have f1 := heap_eq_frozen hI.blk 1
  have hb := lt_of_block hI.blk
  have HI := Lib.hid hI
  have H3 := Lib.hid h3
  clear hl hI h3
  by_cases hs : 8 * L.length < p + k
  · have hr : rBits (unpack L) p k = ((0, 4), p) := by unfold rBits; rw [if_neg hn, if_pos (by rw [hul]; omega)]
    rw [hr]
    have hd : decide ((((8 * L.length - p : Nat)) : Int) < (k : Int)) = true := by simp; omega
    have hk : k ≤ 64 := by omega
    clear hr hul hn
    go_enter Try.func19, Try.ntmps19
    go_wp2_with fail
    refine HL.out.mono ?_
    rintro e w1 ⟨rfl, n1, rfl⟩
    go_wp2
    go_ret2
    exact ⟨rfl, HR.out.drew ⟨n1, rfl⟩, (Fr.refl _ _).drewN _⟩
  · have hr : rBits (unpack L) p k = ((num (((unpack L).drop p).take k), 0), p + k) := by unfold rBits; rw [if_neg hn, if_neg (by rw [hul]; omega), Int.toNat_natCast]
    rw [hr]
    have hd : decide ((((8 * L.length - p : Nat)) : Int) < (k : Int)) = false := by simp; omega
    have hN := fun w1 (h : Drew w w1) => number_calls (HR.out.drew h) (p := p) (n := k) (by omega) (by omega)
    have HN := Lib.hid hN
    have hk : k ≤ 64 := by omega
    clear hr hul hn hN
    go_enter Try.func19, Try.ntmps19
    go_wp2_with fail
    refine HL.out.mono ?_
    rintro e w1 ⟨rfl, n1, rfl⟩
    go_wp2_with fail
    refine (HN.out _ ⟨n1, rfl⟩).mono ?_
    rintro e w1 ⟨rfl, rfl⟩
    go_wp2
    go_ret2
    exact ⟨rfl, ⟨h1, by omega, H3.out, v, ⟨HI.out.move.blk, HI.out.move.row, HI.out.ne⟩, rfl⟩, by (repeat (first | exact Fr.refl _ _ | assumption | apply Fr.drewN | apply Fr.drew | apply Fr.alloc | refine Fr.setCell ?_ (Or.inl (by simp)) _))⟩
end Go.Proofs.Ytfcihdicbncoaaa
