/- The writer of package bitio in the heap; put. -/
import Derived.Test.YtfcihdicbncoaaaRows
import Derived.Test.YtfcihdicbncoaaaHq
import Derived.Test.YtfcihdicbncoaaaRf
import Derived.Test.YtfcihdicbncoaaaBp
import Derived.Test.YtfcihdicbncoaaaSh02
import Derived.Lib.Hide
import Derived.LoopN
import Derived.Laws.Bits64b
import Derived.Laws.BitsAllLaws
import Derived.WalkSmall
namespace Go.Proofs.Ytfcihdicbncoaaa
open Go Go.RowKit Go.Proofs.Rg Go.Proofs.Hp Go.Proofs.Bp
def u8v (n : Nat) : Value := .int .u8 n
def u8s (l : List Nat) : List Value := l.map fun (n : Nat) => Value.int .u8 n
/-- a writer at block b that has the bits bs -/
structure WIn (w : World) (b : Nat) (bs : List Bool) (v : Value) : Prop where
  blk : w.heap[b]? = some (.cells #[v, .int .i64 bs.length] 26 (0, 0))
  row : w.ownsRow 0 5 1 v (pack bs).length (u8s (pack bs))
  ne : v.ownBlock ≠ some b
def WAt (w : World) (b : Nat) (bs : List Bool) (F : List Nat) : Prop := bs.length ≤ 524288 ∧ ∃ v, WIn w b bs v ∧ F = b :: v.ownBlock.toList
theorem WAt.keep {w w' : World} {b : Nat} {bs : List Bool} {F : List Nat} (h : WAt w b bs F) (hk : ∀ x ∈ F, w'.heap[x]? = w.heap[x]?) : WAt w' b bs F := by
  obtain ⟨hg, v, hI, rfl⟩ := h
  exact ⟨hg, v, ⟨(hk b (by simp)).trans hI.blk, owns_of_block hI.row fun g hg => hk g (by simp [hg]), hI.ne⟩, rfl⟩
theorem WAt.lt {w : World} {b : Nat} {bs : List Bool} {F : List Nat} (h : WAt w b bs F) : ∀ x ∈ F, x < w.heap.size := by
  obtain ⟨_, v, hI, rfl⟩ := h
  intro x hx
  simp only [List.mem_cons, Option.mem_toList] at hx
  rcases hx with rfl | hx
  · exact lt_of_block hI.blk
  · exact owns_lt hI.row hx
theorem WAt.fr {w w' : World} {b : Nat} {bs : List Bool} {F G : List Nat} (h : WAt w b bs F) (hf : Fr G w w') (hd : ∀ x ∈ F, x ∉ G) : WAt w' b bs F := h.keep fun x hx => hf.block x (h.lt x hx) (hd x hx)
/-- what a call that turns a writer leaves -/
def WPost (w : World) (b : Nat) (bs : List Bool) (F : List Nat) (w' : World) : Prop := ∃ F', WAt w' b bs F' ∧ Fr F w w' ∧ (∀ x ∈ F', x ∈ F ∨ w.heap.size ≤ x)
theorem WPost.same {w w' : World} {b : Nat} {bs : List Bool} {F : List Nat} (h : WAt w b bs F) (hf : Fr [] w w') : WPost w b bs F w' := ⟨F, h.fr hf (by simp), hf.mono (by simp), fun x hx => .inl hx⟩
theorem WPost.trans {w w1 w2 : World} {b : Nat} {bs : List Bool} {F F1 : List Nat} (hf : Fr F w w1) (hs : ∀ x ∈ F1, x ∈ F ∨ w.heap.size ≤ x) (h : WPost w1 b bs F1 w2) : WPost w b bs F w2 := by
  obtain ⟨F2, h1, h2, h3⟩ := h
  refine ⟨F2, h1, hf.trans h2 hs, fun x hx => ?_⟩
  rcases h3 x hx with h | h
  · exact hs x h
  · have := hf.size; right; omega
theorem info_u8 : (Try.prog.info? 5).map (fun i => (i.zero, i.size, i.bytes)) = some (some (.int .u8 0), 1, 1) := by kernel_rfl
/-- append of one byte -/
theorem append_u8 {ops : Array Oper} {rest : List Oper} {o : Oper} {a : Act} {W : World} {Q : Exit → Act → World → Prop} (hgd : o.guard = none) {s x : Operand} (ho : o.op = .call { callee := .builtin .append, args := #[s, x], argTypes := #[24, 24] })
    {base : Nat} {v : Value} {n : Nat} {xs : List Value} (hs : a.eval s = v) (hown : W.ownsRow base 5 1 v n xs) {nb c : Nat} {y : Int} (hx : a.eval x = .slice (some ⟨nb, 0, none⟩) 1 c)
    (hnb : W.heap[nb]? = some (.cells #[.int .u8 y] 5 (0, 0))) (hn : n ≤ 4000000000000) (hbase : base ≤ W.heap.size)
    (h : ∀ g cap w', w'.ownsRow base 5 1 (.slice (some ⟨g, 0, none⟩) (n + 1) cap) (n + 1) (xs ++ [.int .u8 y]) → (∀ b, b < W.heap.size → v.ownBlock ≠ some b → w'.heap[b]? = W.heap[b]?) → Fr v.ownBlock.toList W w' → (v.ownBlock = some g ∨ g = W.heap.size) → g < w'.heap.size →
      wpList Try.prog ops Q rest (a.put o.dst (.slice (some ⟨g, 0, none⟩) (n + 1) cap)) w') : wpList Try.prog ops Q (o :: rest) a W :=
  append_new hgd ho Try.underlying24 info_u8 rfl (by decide) hs hown hx (news := [.int .u8 y]) hnb rfl (by intro u hu; simp at hu; subst hu; rfl) (by unfold maxLen; omega) (by omega) hbase h
theorem bit_u64 {v j : Nat} (hv : v < 18446744073709551616) : (bits BinOp.and IntKind.u64 ((v : Int) / 2 ^ j) 1 == 1) = v.testBit j := by
  have h1 : ((v : Int) / 2 ^ j) = ((v / 2 ^ j : Nat) : Int) := by simp
  have h2 : v / 2 ^ j < 18446744073709551616 := Nat.lt_of_le_of_lt (Nat.div_le_self _ _) hv
  have := bits_and_u64_nat (v / 2 ^ j) 1 h2 (by omega)
  rw [h1, show (1 : Int) = ((1 : Nat) : Int) from rfl, this, Nat.and_one_is_mod, ← Nat.shiftRight_eq_div_pow, Nat.testBit_eq_decide_div_mod_eq, Nat.shiftRight_eq_div_pow]
  rw [Bool.eq_iff_iff]; simp; omega
theorem put_off {w1 : World} {b g cap m : Nat} {L : List Nat} {xs : List Bool} (hb : w1.heap[b]? = some (.cells #[.slice (some ⟨g, 0, none⟩) L.length cap, .int .i64 m] 26 (0, 0)))
    (hr : w1.ownsRow 0 5 1 (.slice (some ⟨g, 0, none⟩) L.length cap) L.length (u8s L)) (hgb : g ≠ b) (hp : pack xs = L) (hl : xs.length = m + 1) :
    WIn (w1.setCell ⟨b, 1, none⟩ (.int .i64 ((m : Int) + 1))) b xs (.slice (some ⟨g, 0, none⟩) L.length cap) where
  blk := by rw [heap_setCell_here hb, hl]; rfl
  row := by
    rw [hp]
    exact owns_of_block hr fun x hx => setCell_else _ _ _ (by simp [Value.ownBlock] at hx; subst hx; exact hgb)
  ne := by simpa [Value.ownBlock] using hgb
theorem put_on {w1 : World} {b g cap m j r y : Nat} {L : List Nat} {xs : List Bool} (hb : w1.heap[b]? = some (.cells #[.slice (some ⟨g, 0, none⟩) L.length cap, .int .i64 m] 26 (0, 0)))
    (hr : w1.ownsRow 0 5 1 (.slice (some ⟨g, 0, none⟩) L.length cap) L.length (u8s L)) (hgb : g ≠ b) (hj : j < L.length) (hy : y < 256) (hp : pack xs = L.set j (y ||| 128 >>> r)) (hl : xs.length = m + 1) :
    WIn (((w1.setCell ⟨g, j, none⟩ (.int .u8 (bits BinOp.or IntKind.u8 (y : Int) (128 / 2 ^ r)))).setCell ⟨b, 1, none⟩ (.int .i64 ((m : Int) + 1))).drew) b xs (.slice (some ⟨g, 0, none⟩) L.length cap) := by
  have e : bits BinOp.or IntKind.u8 (y : Int) (128 / 2 ^ r) = ((y ||| 128 >>> r : Nat) : Int) := by
    have h1 : (128 : Int) / (2 : Int) ^ r = ((128 >>> r : Nat) : Int) := by rw [Nat.shiftRight_eq_div_pow]; simp
    have h2 : 128 >>> r ≤ 128 := by rw [Nat.shiftRight_eq_div_pow]; exact Nat.div_le_self _ _
    rw [h1]
    exact u8_or_nat _ _ hy (by omega)
  rw [e]
  have hs : u8s (L.set j (y ||| 128 >>> r)) = (u8s L).set j (.int .u8 ((y ||| 128 >>> r : Nat) : Int)) := by rw [u8s, List.map_set]; rfl
  have := put_off (w1 := w1.setCell ⟨g, j, none⟩ (.int .u8 ((y ||| 128 >>> r : Nat) : Int))) (b := b) (g := g) (cap := cap) (m := m) (L := L.set j (y ||| 128 >>> r)) (xs := xs)
    (by rw [List.length_set, setCell_else _ _ _ (by exact fun e => hgb e.symm)]; exact hb) (by rw [List.length_set, hs]; exact owns_set hr rfl (by simpa [u8s] using hj) _) hgb hp hl
  rw [List.length_set] at this
  exact ⟨this.blk, this.row, this.ne⟩
theorem byteStep_off {L : List Nat} {m j r : Nat} (hm : m = 8 * j + r) (hr : r < 8) (h : r ≠ 0) (b : Bool) : byteStep L m b = if b then L.set j (L.getD j 0 ||| 128 >>> r) else L := by
  unfold byteStep
  have e1 : m % 8 = r := by omega
  have e2 : m / 8 = j := by omega
  simp only [e1, e2, h, if_false]
theorem byteStep_on {L : List Nat} {m j : Nat} (hm : m = 8 * j) (hl : L.length = j) (b : Bool) : byteStep L m b = if b then (L ++ [0]).set j (0 ||| 128 >>> 0) else L ++ [0] := by
  unfold byteStep
  have e1 : m % 8 = 0 := by omega
  have e2 : m / 8 = j := by omega
  simp only [e1, e2, if_true]
  subst hl
  rw [List.getD_eq_getElem?_getD, List.getElem?_append_right (Nat.le_refl _)]
  simp
set_option maxHeartbeats 8000000 in
set_option maxRecDepth 100000 in
theorem put_calls {w : World} {b : Nat} {bs : List Bool} {F : List Nat} (hW : WAt w b bs F) {v n : Nat} (hv : v < 18446744073709551616) (hn : n ≤ 64) (hl : bs.length + n ≤ 524288) :
    Calls Try.prog 35 #[.pointer (some ⟨b, 0, none⟩), .int .u64 v, .int .i64 n] w fun e w' => e = .returned (.tuple #[]) ∧ WPost w b (bs ++ digits v n) F w' := by
  have HW := Lib.hid hW
  have Hv := Lib.hid hv
  have Hl := Lib.hid hl
  clear hW hv hl
  go_enter Try.func35, Try.ntmps35
  go_wp2
  go_loopw [8] (fun x wr => ∃ (k : Nat) (G : List Nat), x = .int .i64 k ∧ k ≤ n ∧ WAt wr b (bs ++ (digits v n).take k) G ∧ Fr F w wr ∧ (∀ x ∈ G, x ∈ F ∨ w.heap.size ≤ x)) (fun x _ => n - (intOf x).toNat)
  case atStart => exact ⟨0, F, rfl, by omega, by simpa using HW.out, Fr.refl _ _, fun x hx => .inl hx⟩
  case round =>
    obtain ⟨k, G, rfl, hk, hG, hf, hs⟩ := hrel
    by_cases hlt : k < n
    · have htk := digits_take (v := v) hlt
      have hlk : (bs ++ (digits v n).take k).length + 1 ≤ 524288 := by
        have := Hl.out
        rw [List.length_append, List.length_take, digits_length]; omega
      have hbit := bit_u64 (v := v) (j := n - 1 - k) Hv.out
      obtain ⟨xs, hxs⟩ : ∃ xs, xs = bs ++ (digits v n).take k := ⟨_, rfl⟩
      have hxs1 : bs ++ (digits v n).take (k + 1) = xs ++ [v.testBit (n - 1 - k)] := by rw [htk, hxs, List.append_assoc]
      rw [← hxs] at hG hlk
      have Hx1 := Lib.hid hxs1
      have Hf := Lib.hid hf
      have Hs := Lib.hid hs
      obtain ⟨_, nv, hI, rfl⟩ := hG
      have hpl := pack_length xs
      have hps := pack_snoc xs (v.testBit (n - 1 - k))
      obtain ⟨L, hL⟩ : ∃ L, L = pack xs := ⟨_, rfl⟩
      rw [← hL] at hpl hps
      have hrow := hI.row
      rw [← hL] at hrow
      obtain ⟨na, nc, rfl, hna, _⟩ := owns_form hrow
      have b0 := heap_eq_cell hI.blk 0
      have b1 := heap_eq_cell hI.blk 1
      have f0 := heap_eq_frozen hI.blk 0
      have f1 := heap_eq_frozen hI.blk 1
      have hb := lt_of_block hI.blk
      have hblk := hI.blk
      have Hne := Lib.hid hI.ne
      have Hrow := Lib.hid hrow
      have Hpl := Lib.hid hpl
      have Hps := Lib.hid hps
      have HL := Lib.hid hL
      have Hna := Lib.hid hna
      generalize v.testBit (n - 1 - k) = bit at *
      obtain ⟨m, hm⟩ : ∃ m, m = xs.length := ⟨_, rfl⟩
      rw [← hm] at b1 hlk hblk
      have Hblk := Lib.hid hblk
      have Hm := Lib.hid hm
      clear hblk hf hs hI hxs1 hL hrow hpl hps hxs htk hm hna
      obtain ⟨j, r, hjr, hr8⟩ : ∃ j r, m = 8 * j + r ∧ r < 8 := ⟨m / 8, m % 8, by omega, by omega⟩
      have hd8 : (m : Int) / 8 = j := by omega
      have hm8 : (m : Int) % 8 = r := by omega
      have hLb : L.length = if r = 0 then j else j + 1 := by rw [Hpl.out, ← Hm.out]; split <;> omega
      have HLb := Lib.hid hLb
      have Hjr := Lib.hid hjr
      clear hLb hjr
      by_cases h8 : r = 0
      · subst h8
        have h8' : (((0 : Nat) : Int) == 0) = true := rfl
        have hLl : L.length = j := by rw [HLb.out, if_pos rfl]
        have hst := byteStep_on (L := L) (show m = 8 * j by have := Hjr.out; omega) hLl bit
        have Hst := Lib.hid (Hps.out.trans ((congrArg (fun q => byteStep L q bit) Hm.out.symm).trans hst))
        have HLl := Lib.hid hLl
        have hlen1 : (xs ++ [bit]).length = m + 1 := by rw [List.length_append, ← Hm.out]; rfl
        have Hlen1 := Lib.hid hlen1
        have hLm : L.length ≤ 100000 := by omega
        clear hLl hst hlen1
        go_wp2_with (at_builtin; refine append_u8 (n := L.length) (base := 0) (xs := u8s L) (y := 0) rfl rfl rfl ?e1 rfl ?e2 ?e3 ?e4 ?_)
        case e1 => exact owns_of_block Hrow.out fun y hy => heap_alloc_else _ _ _ (owns_lt Hrow.out hy)
        case e2 => exact (Array.getElem?_eq_some_iff.1 ((hp_alloc _ _ _).trans (if_pos rfl))).2
        case e3 => omega
        intro g cap w9 hown1 hW1 hF1 hloc1 hg1
        have hgb : g ≠ b := fun e => by
          rcases hloc1 with h | h
          · rw [e] at h; exact Hne.out h
          · omega
        have hgb' : b ≠ g := fun e => hgb e.symm
        have hb9 : w9.heap[b]? = some (.cells #[.slice na L.length nc, .int .i64 m] 26 (0, 0)) := by
          rw [hW1 b (by omega) Hne.out]
          show (World.alloc _ _).heap[b]? = _
          rw [heap_alloc_else _ _ _ hb]; exact Hblk.out
        have o0 := heap_eq_cell hb9 0
        have o1 := heap_eq_cell hb9 1
        have p0 := heap_eq_frozen hb9 0
        have p1 := heap_eq_frozen hb9 1
        have hb9l := lt_of_block hb9
        have e0 := owns_cell hown1 rfl (j := j) (u := .int .u8 0) (by rw [← HLl.out, List.getElem?_append_right (by simp [u8s])]; simp [u8s])
        have hfz := owns_frozen hown1 rfl j
        have Hf9 := Lib.hid ((Hf.out.alloc _).trans hF1 fun y hy => Hs.out y (by simp [Option.mem_toList.1 hy]))
        have hsg : g ∈ F ∨ w.heap.size ≤ g := by
          rcases hloc1 with h | h
          · exact Hs.out g (by simp [h])
          · have := Hf.out.size; right; omega
        have hb1 : (w9.setCell ⟨b, 0, none⟩ (.slice (some ⟨g, 0, none⟩) (L.length + 1) cap)).heap[b]? = some (.cells #[.slice (some ⟨g, 0, none⟩) (L ++ [0]).length cap, .int .i64 m] 26 (0, 0)) := by rw [heap_setCell_here hb9, List.length_append]; rfl
        have hr1 : (w9.setCell ⟨b, 0, none⟩ (.slice (some ⟨g, 0, none⟩) (L.length + 1) cap)).ownsRow 0 5 1 (.slice (some ⟨g, 0, none⟩) (L ++ [0]).length cap) (L ++ [0]).length (u8s (L ++ [0])) := by
          have e : u8s (L ++ [0]) = u8s L ++ [.int .u8 0] := by simp [u8s]
          rw [e, List.length_append]
          exact owns_of_block hown1 fun x hx => setCell_else _ _ _ (by simp [Value.ownBlock] at hx; subst hx; exact hgb)
        have Hb1 := Lib.hid hb1
        have Hr1 := Lib.hid hr1
        have Hsg := Lib.hid hsg
        have hjl : j < L.length + 1 := by have := HLl.out; omega
        clear hown1 hW1 hF1 hloc1 hb9 hsg hb1 hr1
        cases bit
        · go_wp2
          go_roundw
          case rel =>
            refine ⟨k + 1, [b, g], by go_num, by omega, ?_, ?_, ?_⟩
            · rw [Hx1.out]
              exact ⟨by rw [Hlen1.out]; omega, _, put_off Hb1.out Hr1.out hgb Hst.out Hlen1.out, rfl⟩
            · exact (Hf9.out.setCell (Hs.out b (by simp)) _).setCell (Hs.out b (by simp)) _
            · intro x hx
              simp only [List.mem_cons, List.mem_nil_iff, or_false] at hx
              rcases hx with rfl | rfl
              · exact Hs.out _ (by simp)
              · exact Hsg.out
          case measure => simp [intOf]; omega
        · go_wp2
          (refine wp_region_text (by kernel_rfl) (by kernel_rfl) ?_)
          go_wp2
          refine Strict.intro rfl ?_
          go_wp2
          go_roundw
          case rel =>
            refine ⟨k + 1, [b, g], by go_num, by omega, ?_, ?_, ?_⟩
            · rw [Hx1.out]
              exact ⟨by rw [Hlen1.out]; omega, _, put_on (y := 0) (r := 0) Hb1.out Hr1.out hgb (by simpa using hjl) (by omega) Hst.out Hlen1.out, rfl⟩
            · exact (((Hf9.out.setCell (Hs.out b (by simp)) _).setCell Hsg.out _).setCell (Hs.out b (by simp)) _).drew
            · intro x hx
              simp only [List.mem_cons, List.mem_nil_iff, or_false] at hx
              rcases hx with rfl | rfl
              · exact Hs.out _ (by simp)
              · exact Hsg.out
          case measure => simp [intOf]; omega
      · have h8' : ((r : Int) == 0) = false := by simp; omega
        have H8 := Lib.hid h8
        have hLl : L.length = j + 1 := by rw [HLb.out, if_neg h8]
        obtain ⟨g, rfl⟩ := Hna.out (by omega)
        obtain ⟨y, hy⟩ : ∃ y, L[j]? = some y := ⟨_, List.getElem?_eq_getElem (by omega)⟩
        have e0 := owns_cell Hrow.out rfl (j := j) (u := .int .u8 y) (by rw [u8s, List.getElem?_map, hy]; rfl)
        have Hy := Lib.hid hy
        have hgb : g ≠ b := fun e => Hne.out (by rw [e]; rfl)
        have hgb' : b ≠ g := fun e => hgb e.symm
        have hgl := owns_lt Hrow.out rfl
        have hy256 : y < 256 := pack_lt xs y (by rw [← HL.out]; exact List.mem_of_getElem? hy)
        have hst := byteStep_off (L := L) Hjr.out hr8 h8 bit
        rw [List.getD_eq_getElem?_getD, hy] at hst
        have Hst := Lib.hid (Hps.out.trans ((congrArg (fun q => byteStep L q bit) Hm.out.symm).trans hst))
        clear hy hst
        have hfz := owns_frozen Hrow.out rfl j
        have hjl : j < L.length := by omega
        have HLl := Lib.hid hLl
        clear h8 hLl
        have hlen1 : (xs ++ [bit]).length = m + 1 := by rw [List.length_append, ← Hm.out]; rfl
        have Hlen1 := Lib.hid hlen1
        clear hlen1
        cases bit
        · go_wp2
          go_roundw
          case rel =>
            refine ⟨k + 1, [b, g], by go_num, by omega, ?_, ?_, Hs.out⟩
            · rw [Hx1.out]
              exact ⟨by rw [Hlen1.out]; omega, _, put_off Hblk.out Hrow.out hgb Hst.out Hlen1.out, rfl⟩
            · exact Hf.out.setCell (Hs.out b (by simp)) _
          case measure => simp [intOf]; omega
        · go_wp2
          (refine wp_region_text (by kernel_rfl) (by kernel_rfl) ?_)
          go_wp2
          refine Strict.intro rfl ?_
          go_wp2
          go_roundw
          case rel =>
            refine ⟨k + 1, [b, g], by go_num, by omega, ?_, ?_, Hs.out⟩
            · rw [Hx1.out]
              exact ⟨by rw [Hlen1.out]; omega, _, put_on Hblk.out Hrow.out hgb hjl hy256 Hst.out Hlen1.out, rfl⟩
            · exact ((Hf.out.setCell (Hs.out g (by simp [Value.ownBlock])) _).setCell (Hs.out b (by simp)) _).drew
          case measure => simp [intOf]; omega
    · obtain rfl : k = n := by omega
      have Hf := Lib.hid hf
      have Hs := Lib.hid hs
      have HG := Lib.hid hG
      clear hf hs hG
      go_wp2
      go_end0
      exact ⟨rfl, G, by have := HG.out; rwa [List.take_of_length_le (by rw [digits_length]; omega)] at this, Hf.out, Hs.out⟩
end Go.Proofs.Ytfcihdicbncoaaa
