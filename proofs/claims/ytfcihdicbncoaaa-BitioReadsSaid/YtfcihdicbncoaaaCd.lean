/- The reference's writer: Bytes; write of the law; BitioWrites. -/
import Derived.Test.YtfcihdicbncoaaaCc
import Derived.Test.YtfcihdicbncoaaaBq
namespace Go.Proofs.Ytfcihdicbncoaaa
open Go Go.RowKit Go.Proofs.Rg Go.Proofs.Hp Go.Proofs.Bp
theorem or_u8 {y r : Nat} (hy : y < 256) : bits BinOp.or IntKind.u8 (y : Int) (128 / 2 ^ r) = ((y ||| 128 >>> r : Nat) : Int) := by
  have h1 : (128 : Int) / (2 : Int) ^ r = ((128 >>> r : Nat) : Int) := by rw [Nat.shiftRight_eq_div_pow]; simp
  have h2 : 128 >>> r ≤ 128 := by rw [Nat.shiftRight_eq_div_pow]; exact Nat.div_le_self _ _
  rw [h1]
  exact u8_or_nat _ _ hy (by omega)
theorem u8s_set {L : List Nat} {j y : Nat} : u8s (L.set j y) = (u8s L).set j (.int .u8 y) := by rw [u8s, List.map_set]; rfl
set_option maxHeartbeats 8000000 in
set_option maxRecDepth 100000 in
theorem RwBytes_calls {w : World} {b : Nat} {bs : List Bool} {F : List Nat} (hW : RwAt w b bs F) :
    Calls Try.prog 14 #[.pointer (some ⟨b, 0, none⟩)] w (RowPost w 5 (pack bs).length (u8s (pack bs))) := by
  obtain ⟨hlen, v0, hI, rfl⟩ := hW
  obtain ⟨na, nc, rfl, hna, _⟩ := owns_form hI.row
  have HI := Lib.hid hI
  have Hna := Lib.hid hna
  have hb := lt_of_block hI.blk
  clear hI hna
  go_enter Try.func14, Try.ntmps14
  go_wp2
  go_loopw [3, 4] (fun o x wl => ∃ (k : Nat), x = .int .i64 k ∧ k ≤ bs.length ∧ wl.ownsRow w.heap.size 5 1 o (pack (bs.take k)).length (u8s (pack (bs.take k))) ∧ Fr [] w wl) (fun _ x _ => bs.length - (intOf x).toNat)
  case atStart => exact ⟨0, rfl, by omega, World.ownsRow_nil _ _ _ _, Fr.refl _ _⟩
  case round =>
    obtain ⟨k, rfl, hk, ho, hf⟩ := hrel
    have hbr : wr.heap[b]? = _ := (hf.block b hb (by simp)).trans HI.out.blk
    have b0 := heap_eq_cell hbr 0
    have Hf := Lib.hid hf
    have hsz := hf.size
    have hbl := lt_of_block hbr
    by_cases hlt : k < bs.length
    · obtain ⟨g1, rfl⟩ := Hna.out (by omega)
      obtain ⟨bt, hbt⟩ : ∃ x, bs[k]? = some x := ⟨_, List.getElem?_eq_getElem hlt⟩
      have hgd : g1 < w.heap.size := owns_lt HI.out.row rfl
      have e1 : wr.cell? ⟨g1, k, none⟩ = some (.bool bt) := (hf.cell (p := ⟨g1, k, none⟩) hgd (by simp)).trans (owns_cell HI.out.row rfl (by rw [bos, List.getElem?_map, hbt]; rfl))
      have htk : bs.take (k + 1) = bs.take k ++ [bt] := by rw [List.take_add_one, hbt]; rfl
      have hps : pack (bs.take (k + 1)) = byteStep (pack (bs.take k)) k bt := by rw [htk, pack_snoc, List.length_take, Nat.min_eq_left (by omega)]
      have hpl := pack_length (bs.take k)
      rw [List.length_take, Nat.min_eq_left (by omega)] at hpl
      have hpb := pack_lt (bs.take k)
      obtain ⟨L, hL⟩ : ∃ L, L = pack (bs.take k) := ⟨_, rfl⟩
      rw [← hL] at hps hpl hpb ho
      obtain ⟨j, r, rfl, hr8⟩ : ∃ j r, k = 8 * j + r ∧ r < 8 := ⟨k / 8, k % 8, by omega, by omega⟩
      have hm8 : (((8 * j + r : Nat) : Int)) % 8 = r := by omega
      have hgr : g1 < wr.heap.size := by omega
      by_cases h8 : r = 0
      · subst h8
        have hLl : L.length = j := by omega
        have hst := byteStep_on (L := L) (m := 8 * j + 0) (j := j) rfl hLl bt
        rw [hst] at hps
        rw [hLl] at ho
        generalize 8 * j + 0 = k at *
        obtain ⟨oa, oc, rfl, _, _⟩ := owns_form ho
        have Ho := Lib.hid ho
        have Hps := Lib.hid hps
        have HLl := Lib.hid hLl
        have h8' : (((0 : Nat) : Int) == 0) = true := rfl
        have hj9 : j ≤ 100000 := by omega
        clear hf hbr hbt htk hps hpl hpb hL hst ho hLl
        go_wp2_with (at_builtin; refine append_u8 (n := j) (base := w.heap.size) (xs := u8s L) (y := 0) rfl rfl rfl ?e1 rfl ?e2 ?e3 ?e4 ?_)
        case e1 => exact owns_of_block Ho.out fun y hy => heap_alloc_else _ _ _ (owns_lt Ho.out hy)
        case e2 => (first | (rw [hp_alloc, if_pos rfl]; done) | exact (Array.getElem?_eq_some_iff.1 ((hp_alloc _ _ _).trans (if_pos rfl))).2 | (simp only [hp_drew, hp_drewN]; rw [hp_alloc, if_pos rfl]; done))
        case e3 => omega
        case e4 => (first | omega | (rw [hp_alloc_size]; omega) | (simp only [hp_drew, hp_drewN, hp_alloc_size]; omega) | (simp; omega))
        intro g cap w9 hown1 hW1 hF1 hloc1 hg9
        have hf9 := fr_append Hf.out Ho.out hF1
        have hb9 : w9.heap[b]? = _ := (hf9.block b hb (by simp)).trans HI.out.blk
        have o0 := heap_eq_cell hb9 0
        have hb9l := lt_of_block hb9
        have d1 : w9.cell? ⟨g1, k, none⟩ = some (.bool bt) := by
          rw [hf9.cell (p := ⟨g1, k, none⟩) hgd (by simp), ← Hf.out.cell (p := ⟨g1, k, none⟩) hgd (by simp)]; exact e1
        have hgd9 : g1 < w9.heap.size := by have := hf9.size; omega
        have y0 := owns_cell hown1 rfl (j := j) (u := .int .u8 0) (by rw [← HLl.out, List.getElem?_append_right (by simp [u8s])]; simp [u8s])
        have z0 := owns_frozen hown1 rfl j
        have hx1 : u8s L ++ [.int .u8 0] = u8s (L ++ [0]) := by simp [u8s]
        rw [hx1] at hown1
        have Hown1 := Lib.hid hown1
        have Hf9 := Lib.hid hf9
        have hgw := owns_ge hown1 rfl
        clear hown1 hW1 hF1 hloc1 hf9 hb9 hx1 b0 e1
        cases bt
        · go_wp2
          go_roundw
          case rel =>
            refine ⟨k + 1, by go_num, by omega, ?_, Hf9.out⟩
            rw [Hps.out]
            have := Hown1.out
            have e : (L ++ [0]).length = j + 1 := by simp [HLl.out]
            simp only [Bool.false_eq_true, if_false]
            rwa [e]
          case measure => simp [intOf]; omega
        · go_wp2
          go_roundw
          case rel =>
            refine ⟨k + 1, by go_num, by omega, ?_, ?_⟩
            · rw [Hps.out]
              simp only [if_true]
              have e : ((L ++ [0]).set j (0 ||| 128 >>> 0)).length = j + 1 := by simp [HLl.out]
              have hv : bits BinOp.or IntKind.u8 0 128 = ((0 ||| 128 >>> 0 : Nat) : Int) := by rw [← or_u8 (y := 0) (r := 0) (by omega)]; rfl
              rw [e, u8s_set]
              show World.ownsRow _ _ _ _ _ _ ((u8s (L ++ [0])).set j (.int .u8 ((0 ||| 128 >>> 0 : Nat) : Int)))
              rw [← hv]
              exact owns_set Hown1.out rfl (by simp [u8s, HLl.out]) _
            · exact Hf9.out.setCell (p := ⟨g, j, none⟩) (.inr hgw) _
          case measure => simp [intOf]; omega
      · have hLl : L.length = j + 1 := by omega
        have hst := byteStep_off (L := L) (m := 8 * j + r) rfl hr8 h8 bt
        obtain ⟨y, hy⟩ : ∃ y, L[j]? = some y := ⟨_, List.getElem?_eq_getElem (by omega)⟩
        have hy256 : y < 256 := hpb y (List.mem_of_getElem? hy)
        rw [List.getD_eq_getElem?_getD, hy] at hst
        rw [hst] at hps
        rw [hLl] at ho
        generalize 8 * j + r = k at *
        obtain ⟨oa, oc, rfl, hoa, _⟩ := owns_form ho
        obtain ⟨g, rfl⟩ := hoa (by omega)
        have y0 := owns_cell ho rfl (j := j) (u := .int .u8 y) (by rw [u8s, List.getElem?_map, hy]; rfl)
        have z0 := owns_frozen ho rfl j
        have hgw := owns_ge ho rfl
        have hgl := owns_lt ho rfl
        have Ho := Lib.hid ho
        have Hps := Lib.hid hps
        have HLl := Lib.hid hLl
        have h8' : ((r : Int) == 0) = false := by simp; omega
        have hj9 : j ≤ 100000 := by omega
        clear hf hbr hbt htk hps hpl hpb hL hst ho hLl hy hoa h8
        cases bt
        · go_wp2
          go_roundw
          case rel =>
            refine ⟨k + 1, by go_num, by omega, ?_, Hf.out⟩
            rw [Hps.out]
            simp only [Bool.false_eq_true, if_false]
            have := Ho.out
            rwa [HLl.out]
          case measure => simp [intOf]; omega
        · go_wp2
          go_roundw
          case rel =>
            refine ⟨k + 1, by go_num, by omega, ?_, Hf.out.setCell (p := ⟨g, j, none⟩) (.inr hgw) _⟩
            rw [Hps.out]
            simp only [if_true]
            rw [List.length_set, HLl.out, u8s_set]
            show World.ownsRow _ _ _ _ _ _ ((u8s L).set j (.int .u8 ((y ||| 128 >>> r : Nat) : Int)))
            rw [← or_u8 hy256]
            exact owns_set Ho.out rfl (by simp [u8s, HLl.out]) _
          case measure => simp [intOf]; omega
    · obtain rfl : k = bs.length := by omega
      have Ho := Lib.hid ho
      clear hf hbr ho
      go_wp2
      go_ret
      refine ⟨_, rfl, ?_, Hf.out⟩
      have := Ho.out
      rwa [List.take_length] at this
end Go.Proofs.Ytfcihdicbncoaaa
