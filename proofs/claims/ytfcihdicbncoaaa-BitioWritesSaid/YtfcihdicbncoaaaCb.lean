/- The reference's writer: Code, add, Bits, Gamma, Signed, Len. -/
import Derived.Test.YtfcihdicbncoaaaCa
import Derived.Test.YtfcihdicbncoaaaMk
namespace Go.Proofs.Ytfcihdicbncoaaa
open Go Go.RowKit Go.Proofs.Rg Go.Proofs.Hp Go.Proofs.Bp
theorem log_lt {m : Nat} (h : 1 ≤ m) (k : Nat) : ((1 : Int) < (m : Int) / 2 ^ k) ↔ k < m.log2 := by
  have h1 : (m : Int) / 2 ^ k = ((m / 2 ^ k : Nat) : Int) := by simp
  rw [h1]
  have h2 : k < m.log2 ↔ 2 ^ (k + 1) ≤ m := by rw [← Nat.le_log2 (by omega)]; omega
  have h3 : 2 ≤ m / 2 ^ k ↔ 2 * 2 ^ k ≤ m := Nat.le_div_iff_mul_le (Nat.two_pow_pos k)
  rw [h2, Nat.pow_succ]
  omega
set_option maxHeartbeats 4000000 in
theorem Code_calls {w : World} {m : Nat} (h1 : 1 ≤ m) (hm : m < 18446744073709551616) :
    Calls Try.prog 41 #[.int .u64 m] w (RowPost w 4 (gcode m).length (bos (gcode m))) := by
  have hlg : m.log2 < 64 := (Nat.log2_lt (by omega)).2 (by simpa using hm)
  have hlog := log_lt h1
  have hgc : gcode m = List.replicate m.log2 false ++ digits m (m.log2 + 1) := rfl
  generalize m.log2 = g at *
  have Hlog := Lib.hid hlog
  have Hgc := Lib.hid hgc
  have Hm := Lib.hid hm
  clear hlog hgc hm h1
  go_enter Try.func41, Try.ntmps41
  go_wp2
  go_loopw [3] (fun x wl => ∃ k : Nat, x = .int .i64 k ∧ k ≤ g ∧ w = wl) (fun x _ => g - (intOf x).toNat)
  case atStart => exact ⟨0, rfl, by omega, rfl⟩
  case round =>
    obtain ⟨k, rfl, hk, rfl⟩ := hrel
    have hwk : IntKind.u64.wrap (k : Int) = k := IntWalk.u64_in _ (by omega)
    by_cases hlt : k < g
    · have hdk : decide ((1 : Int) < (m : Int) / 2 ^ k) = true := decide_eq_true ((Hlog.out k).2 hlt)
      go_wp2
      go_roundw
      case rel => exact ⟨k + 1, by go_num, by omega, trivial⟩
      case measure => simp [intOf]; omega
    · obtain rfl : k = g := by omega
      have hdk : decide ((1 : Int) < (m : Int) / 2 ^ k) = false := decide_eq_false fun h => by have := (Hlog.out k).1 h; omega
      go_wp2_with (refine wpList_make1 rfl (t := 27) (e := 4) (n := k) (z := .bool false) (bytes := 1) rfl rfl rfl Try.underlying27 info_bool rfl ?e1 ?e2 ?_)
      case e1 => omega
      case e2 => unfold maxLen; omega
      intro w1 ho hf hsz
      have Ho := Lib.hid ho
      have Hf := Lib.hid hf
      clear ho hf
      have hD : Calls Try.prog 39 #[.int .u64 m, .int .i64 ((k : Int) + 1)] w1 (RowPost w1 4 (k + 1) (bos (digits m (k + 1)))) := Digits_calls (n := k + 1) Hm.out (by omega)
      have HD := Lib.hid hD
      clear hD
      go_wp2_with fail
      refine HD.out.mono ?_
      rintro e w2 ⟨v2, rfl, ho2, hf2⟩
      have hr1 : Reads w2 (.slice (some ⟨w.heap.size, 0, none⟩) k k) (List.replicate k false).length 1 (bos (List.replicate k false)) := by
        have := (Reads.of_owns Ho.out).fr hf2
        rw [List.length_replicate]
        simpa [bos] using this
      have hr2 : Reads w2 v2 (digits m (k + 1)).length 1 (bos (digits m (k + 1))) := by rw [digits_length]; exact Reads.of_owns ho2
      have hG := Glue_calls hr1 hr2 (by simp; omega) (by rw [digits_length]; omega)
      rw [← Hgc.out] at hG
      have HG := Lib.hid hG
      have Hf2 := Lib.hid (Hf.out.trans0 hf2)
      clear ho2 hf2 hr1 hr2 hG
      go_wp2_with fail
      refine HG.out.mono ?_
      rintro e w3 ⟨v3, rfl, ho3, hf3⟩
      have Ho3 := Lib.hid ho3
      have Hf3 := Lib.hid (Hf2.out.trans0 hf3)
      have hs3 := Hf2.out.size
      clear ho3 hf3
      go_wp2
      go_ret
      exact ⟨v3, rfl, owns_base Ho3.out hs3, Hf3.out⟩
/-- the reference's writer at block b with the bits bs -/
structure RwIn (w : World) (b : Nat) (bs : List Bool) (v : Value) : Prop where
  blk : w.heap[b]? = some (.cells #[v] 29 (0, 0))
  row : w.ownsRow 0 4 1 v bs.length (bos bs)
  ne : v.ownBlock ≠ some b
def RwAt (w : World) (b : Nat) (bs : List Bool) (F : List Nat) : Prop := bs.length ≤ 524288 ∧ ∃ v, RwIn w b bs v ∧ F = b :: v.ownBlock.toList
theorem RwAt.keep {w w' : World} {b : Nat} {bs : List Bool} {F : List Nat} (h : RwAt w b bs F) (hk : ∀ x ∈ F, w'.heap[x]? = w.heap[x]?) : RwAt w' b bs F := by
  obtain ⟨hg, v, hI, rfl⟩ := h
  exact ⟨hg, v, ⟨(hk b (by simp)).trans hI.blk, owns_of_block hI.row fun g hg => hk g (by simp [hg]), hI.ne⟩, rfl⟩
theorem RwAt.lt {w : World} {b : Nat} {bs : List Bool} {F : List Nat} (h : RwAt w b bs F) : ∀ x ∈ F, x < w.heap.size := by
  obtain ⟨_, v, hI, rfl⟩ := h
  intro x hx
  simp only [List.mem_cons, Option.mem_toList] at hx
  rcases hx with rfl | hx
  · exact lt_of_block hI.blk
  · exact owns_lt hI.row hx
theorem RwAt.fr {w w' : World} {b : Nat} {bs : List Bool} {F G : List Nat} (h : RwAt w b bs F) (hf : Fr G w w') (hd : ∀ x ∈ F, x ∉ G) : RwAt w' b bs F := h.keep fun x hx => hf.block x (h.lt x hx) (hd x hx)
def RwCall (w : World) (b : Nat) (r : List Bool × Int) (F : List Nat) (e : Ending) (w' : World) : Prop := e = .returned (.int .i64 r.2) ∧ ∃ F', RwAt w' b r.1 F' ∧ Fr F w w' ∧ ∀ x ∈ F', x ∈ F ∨ w.heap.size ≤ x
theorem RwCall.same {w w' : World} {b : Nat} {bs : List Bool} {F : List Nat} {r : List Bool × Int} {x : Int} (h : RwAt w b bs F) (hf : Fr [] w w') (hr : r = (bs, x)) : RwCall w b r F (.returned (.int .i64 x)) w' := by
  subst hr; exact ⟨rfl, F, h.fr hf (by simp), hf.mono (by simp), fun x hx => .inl hx⟩
def wAdd (bs l : List Bool) : List Bool × Int := if 524288 < bs.length + l.length then (bs, 6) else (bs ++ l, 0)
set_option maxHeartbeats 8000000 in
set_option maxRecDepth 100000 in
theorem add_calls {w : World} {b : Nat} {bs l : List Bool} {F : List Nat} {lv : Value} (hW : RwAt w b bs F) (hl : Reads w lv l.length 1 (bos l)) (hd : ∀ g, lv.ownBlock = some g → g ∉ F) (hll : l.length ≤ 1000) :
    Calls Try.prog 40 #[.pointer (some ⟨b, 0, none⟩), lv] w (RwCall w b (wAdd bs l) F) := by
  have HW := Lib.hid hW
  have Hd := Lib.hid hd
  obtain ⟨_, a1, c1, rfl, ha1⟩ := hl
  have Ha1 := Lib.hid ha1
  clear ha1 hd
  by_cases hbig : 524288 < bs.length + l.length
  · obtain ⟨hlen, v, hI, rfl⟩ := hW
    obtain ⟨va, vc, rfl, _, _⟩ := owns_form hI.row
    have b0 := heap_eq_cell hI.blk 0
    have hr : wAdd bs l = (bs, 6) := by unfold wAdd; rw [if_pos hbig]
    have Hr := Lib.hid hr
    have hd : decide ((524288 : Int) < (bs.length : Int) + l.length) = true := by simp; omega
    clear hI hr
    go_enter Try.func40, Try.ntmps40
    go_wp2
    go_ret
    exact RwCall.same HW.out (Fr.refl _ _) Hr.out
  have hr : wAdd bs l = (bs ++ l, 0) := by unfold wAdd; rw [if_neg hbig]
  have Hr := Lib.hid hr
  have hd : decide ((524288 : Int) < (bs.length : Int) + l.length) = false := by simp; omega
  have hbl : bs.length + l.length ≤ 524288 := by omega
  obtain ⟨hlen, v, hI, hFe⟩ := hW
  obtain ⟨va, vc, rfl, _, _⟩ := owns_form hI.row
  have b0 := heap_eq_cell hI.blk 0
  clear hI hr hbig hFe
  go_enter Try.func40, Try.ntmps40
  go_wp2
  clear hd b0
  go_loopw [5] (fun x wl => ∃ (k : Nat) (G : List Nat), x = .int .i64 k ∧ k ≤ l.length ∧ RwAt wl b (bs ++ l.take k) G ∧ Fr F w wl ∧ (∀ x ∈ G, x ∈ F ∨ w.heap.size ≤ x)) (fun x _ => l.length - (intOf x).toNat)
  case atStart => exact ⟨0, F, rfl, by omega, by simpa using HW.out, Fr.refl _ _, fun x hx => .inl hx⟩
  case round =>
    obtain ⟨k, G, rfl, hk, hG, hf, hs⟩ := hrel
    have Hf := Lib.hid hf
    have Hs := Lib.hid hs
    by_cases hlt : k < l.length
    · obtain ⟨g1, off1, rfl, hg1, hc1⟩ := Ha1.out (by omega)
      obtain ⟨bt, hbt⟩ : ∃ x, l[k]? = some x := ⟨_, List.getElem?_eq_getElem hlt⟩
      have e1 := (hf.cell (p := ⟨g1, off1 + k, none⟩) hg1 (Hd.out g1 rfl)).trans (hc1 k (.bool bt) (by rw [bos, List.getElem?_map, hbt]; rfl))
      have htk : bs ++ l.take (k + 1) = (bs ++ l.take k) ++ [bt] := by rw [List.take_add_one, hbt, List.append_assoc]; rfl
      have hxl : (bs ++ l.take k).length = bs.length + k := by rw [List.length_append, List.length_take]; omega
      have hg1r : g1 < wr.heap.size := by have := hf.size; omega
      obtain ⟨xs, hxs⟩ : ∃ xs, xs = bs ++ l.take k := ⟨_, rfl⟩
      rw [← hxs] at hG htk hxl
      obtain ⟨_, nv, hI, rfl⟩ := hG
      obtain ⟨na, nc, rfl, _, _⟩ := owns_form hI.row
      have b0 := heap_eq_cell hI.blk 0
      have f0 := heap_eq_frozen hI.blk 0
      have hb := lt_of_block hI.blk
      have HI := Lib.hid hI
      have Htk := Lib.hid htk
      have hxl2 : xs.length ≤ 524288 := by omega
      have Hxl := Lib.hid hxl
      clear hc1 hbt htk hxl hxs hI hf hs
      go_wp2
      (refine wp_region_text (by kernel_rfl) (by kernel_rfl) ?_)
      go_wp2_with (at_builtin; refine append_bo (n := xs.length) (base := 0) (xs := bos xs) (y := bt) rfl rfl rfl ?e1 rfl ?e2 ?e3 ?e4 ?_)
      case e1 => exact owns_of_block HI.out.row fun y hy => heap_alloc_else _ _ _ (owns_lt HI.out.row hy)
      case e2 => (repeat (first | rw [if_pos (by omega)] | rw [if_neg (by omega)] | rw [hp_drew] | rw [hp_drewN] | rw [hp_alloc_size] | rw [hp_setCell_size] | rw [hp_alloc] | rw [hp_setCell] | rw [Option.map_some] | rw [upd_cells] | rw [List.set_cons_zero] | rw [List.set_cons_succ] | rfl))
      case e3 => omega
      case e4 => omega
      intro g cap w9 hown1 hW1 hF1 hloc1 hg9
      rw [← bos_snoc] at hown1
      have hgb : g ≠ b := fun e => by
        rcases hloc1 with h | h
        · rw [e] at h; exact HI.out.ne h
        · omega
      have hb9 : w9.heap[b]? = some (.cells #[.slice na xs.length nc] 29 (0, 0)) := by
        rw [hW1 b (by omega) HI.out.ne]
        show (World.alloc _ _).heap[b]? = _
        rw [heap_alloc_else _ _ _ hb]; exact HI.out.blk
      have o0 := heap_eq_cell hb9 0
      have p0 := heap_eq_frozen hb9 0
      have hb9l := lt_of_block hb9
      have Hown1 := Lib.hid hown1
      have Hb9 := Lib.hid hb9
      have Hf9 := Lib.hid ((Hf.out.alloc _).drew.trans hF1 fun y hy => Hs.out y (by simp [Option.mem_toList.1 hy]))
      have hsg : g ∈ F ∨ w.heap.size ≤ g := by
        rcases hloc1 with h | h
        · exact Hs.out g (by simp [h])
        · have := Hf.out.size; right; omega
      have Hsg := Lib.hid hsg
      clear hown1 hW1 hF1 hloc1 hb9 hsg
      go_wp2
      refine Strict.intro rfl ?_
      go_wp2
      go_roundw
      case rel =>
        refine ⟨k + 1, [b, g], by go_num, by omega, ?_, ?_, ?_⟩
        · rw [Htk.out]
          refine ⟨by rw [List.length_append]; simp; have := Hxl.out; omega, .slice (some ⟨g, 0, none⟩) (xs.length + 1) cap, ⟨?_, ?_, by simpa [Value.ownBlock] using hgb⟩, rfl⟩
          · (repeat (first | rw [if_pos (by omega)] | rw [if_neg (by omega)] | rw [hp_drew] | rw [hp_drewN] | rw [hp_alloc_size] | rw [hp_setCell_size] | rw [hp_alloc] | rw [hp_setCell] | rw [Option.map_some] | rw [upd_cells] | rw [List.set_cons_zero] | rw [List.set_cons_succ] | rfl))
            rw [Hb9.out]; rfl
          · rw [List.length_append]
            refine owns_of_block Hown1.out fun y hy => ?_
            have : g = y := by simpa [Value.ownBlock] using hy
            rw [hp_setCell, if_neg (by omega)]
        · exact Hf9.out.setCell (Hs.out b (by simp)) _
        · intro x hx
          simp only [List.mem_cons, List.mem_nil_iff, or_false] at hx
          rcases hx with rfl | rfl
          · exact Hs.out _ (by simp)
          · exact Hsg.out
      case measure => simp [intOf]; omega
    · obtain rfl : k = l.length := by omega
      have HG := Lib.hid hG
      clear hf hs hG
      go_wp2
      go_ret
      rw [Hr.out]
      refine ⟨rfl, G, ?_, Hf.out, Hs.out⟩
      have := HG.out
      rwa [List.take_length] at this
end Go.Proofs.Ytfcihdicbncoaaa
