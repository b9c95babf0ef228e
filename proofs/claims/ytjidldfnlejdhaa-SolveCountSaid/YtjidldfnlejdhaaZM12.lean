/- Own texts of this claim, part 13: no condition. -/
import Derived.Test.YtjidldfnlejdhaaProg
import Derived.Lib.Hide
import Derived.IntWalk
import Derived.Laws.EntriesVeiled
import Derived.Deep.LoopGhost
import Derived.Shelf.SlicesE.Index
import Derived.Shelf.SlicesE.IndexFunc
import Derived.Shelf.SlicesE.DeleteFunc
import Derived.Shelf.SlicesE.Compact
import Derived.Shelf.SlicesE.Clone
import Derived.Shelf.SlicesE.Delete
import Derived.Shelf.SlicesE.Reverse
import Derived.Shelf.SortM.Plain
import Derived.Shelf.SortM.SortNone
import Derived.Test.YtjidldfnlejdhaaZM10
import Derived.Test.YtjidldfnlejdhaaZM11
set_option linter.unusedVariables false
set_option linter.unusedSimpArgs false
section
/- solve: the engine in the heap; the value of a literal. -/
namespace Go.Proofs.Ytjidldfnlejdhaa
open Go Go.RowKit Go.Proofs.Rg Go.Proofs.Mp Go.Proofs.Hp Go.Proofs.Sv
set_option linter.unusedVariables false
set_option linter.unusedSimpArgs false
theorem keysI : KeysBy Try.prog 3 (fun n : Int => Value.int .i64 n) := KeysBy.int Try.underlying3
/-- the value of a variable under a trail -/
def vof (tr : List Int) (v : Nat) : Int := if (v : Int) ∈ tr then 1 else if -(v : Int) ∈ tr then -1 else 0
/-- the value of a literal under a trail -/
def lv (tr : List Int) (x : Int) : Int := if x ∈ tr then 1 else if -x ∈ tr then -1 else 0
def vals (V : Nat) (tr : List Int) : List Value := (List.range (V + 1)).map fun v => Value.int .i8 (vof tr v)
def dcs (D : List Dec) : List Value := D.reverse.flatMap fun d => [.int .i64 (d.v : Int), .int .i64 (d.t : Int), .bool d.tn]
def rowC (p : Value × List Int) : Res := Hp.row 3 1 p.1 p.2.length (iv p.2)
/-- the engine's things -/
def engL (p V : Nat) (CV : List (Value × List Int)) (L : List (Int × (Value × List Nat))) (mb : Nat) (cv vv tv dv : Value) (tr : List Int) (dn : Nat) (D : List Dec) (bad : Bool) : List Res :=
  [blk p (.cells #[cv, .map (some mb), vv, tv, .int .i64 (dn : Int), dv, .bool bad] 80 (0, 0)),
   Hp.row 51 1 cv CV.length (CV.map (·.1)), bun (CV.map rowC), mapT mb (fun n : Int => Value.int .i64 n) (fun q : Value × List Nat => q.1) L, bun (L.map (rowI 3)),
   Hp.row 83 1 vv (V + 1) (vals V tr), Hp.row 3 1 tv tr.length (iv tr), Hp.row 88 3 dv D.length (dcs D)]
def engR (p V : Nat) (CV : List (Value × List Int)) (L : List (Int × (Value × List Nat))) (tr : List Int) (dn : Nat) (D : List Dec) (bad : Bool) : Res :=
  exR fun q : Nat × Value × Value × Value × Value => bun (engL p V CV L q.1 q.2.1 q.2.2.1 q.2.2.2.1 q.2.2.2.2 tr dn D bad)
section
variable {W w : World} {Ps : List Res} {p V : Nat} {CV : List (Value × List Int)} {L : List (Int × (Value × List Nat))} {tr : List Int} {dn : Nat} {D : List Dec} {bad : Bool}
theorem eng_open (h : Has W w (engR p V CV L tr dn D bad :: Ps)) : ∃ mb cv vv tv dv, Has W w (engL p V CV L mb cv vv tv dv tr dn D bad ++ Ps) := by
  obtain ⟨⟨mb, cv, vv, tv, dv⟩, h1⟩ := h.unex
  exact ⟨mb, cv, vv, tv, dv, h1.unbun⟩
theorem eng_close {mb : Nat} {cv vv tv dv : Value} (h : Has W w (engL p V CV L mb cv vv tv dv tr dn D bad ++ Ps)) : Has W w (engR p V CV L tr dn D bad :: Ps) :=
  Has.inex (mb, cv, vv, tv, dv) h.rebun
/-- the values as they are read -/
def OfAt (w : World) (p V : Nat) (tr : List Int) : Prop :=
  p < w.heap.size ∧ ∃ g cap, g < w.heap.size ∧ w.cell? ⟨p, 2, none⟩ = some (.slice (some ⟨g, 0, none⟩) (V + 1) cap) ∧ ∀ v, v ≤ V → w.cell? ⟨g, v, none⟩ = some (.int .i8 (vof tr v))
theorem OfAt.keep {w' : World} (h : OfAt w p V tr) (hk : ∀ b < w.heap.size, w'.heap[b]? = w.heap[b]?) (hs : w.heap.size ≤ w'.heap.size) : OfAt w' p V tr := by
  obtain ⟨h1, g, cap, h2, h3, h4⟩ := h
  refine ⟨by omega, g, cap, by omega, ?_, fun v hv => ?_⟩
  · rw [World.cell?_of_block (w := w) (a := ⟨p, 2, none⟩) (hk p h1)]; exact h3
  · rw [World.cell?_of_block (w := w) (a := ⟨g, v, none⟩) (hk g h2)]; exact h4 v hv
theorem OfAt.fr {w' : World} (h : OfAt w p V tr) (hf : Fr [] w w') : OfAt w' p V tr := h.keep (fun b hb => hf.block b hb (by simp)) hf.size
theorem vals_get {v : Nat} (h : v ≤ V) : (vals V tr)[v]? = some (.int .i8 (vof tr v)) := by
  unfold vals
  rw [List.getElem?_map, List.getElem?_range (by omega)]; rfl
theorem ofAt (h : Has W w (engR p V CV L tr dn D bad :: Ps)) : OfAt w p V tr := by
  obtain ⟨mb, cv, vv, tv, dv, h⟩ := eng_open h
  have hb := h.blk
  have h5 := (h.ord 8 [5]).row
  obtain ⟨a, cap, rfl, ha, _⟩ := owns_form h5
  obtain ⟨g, rfl⟩ := ha (by omega)
  exact ⟨lt_of_block hb, g, cap, owns_lt h5 rfl, heap_eq_cell hb 2, fun v hv => owns_cell h5 rfl (vals_get hv)⟩
end
theorem vof_cases (tr : List Int) (v : Nat) : vof tr v = 1 ∨ vof tr v = -1 ∨ vof tr v = 0 := by
  unfold vof; split
  · exact .inl rfl
  · split
    · exact .inr (.inl rfl)
    · exact .inr (.inr rfl)
theorem lv_pos {tr : List Int} {v : Nat} : lv tr (v : Int) = vof tr v := rfl
theorem lv_neg {V : Nat} {tr : List Int} (h : TrOk V tr) {v : Nat} : lv tr (-(v : Int)) = -vof tr v := by
  unfold lv vof
  rw [Int.neg_neg]
  by_cases h1 : (v : Int) ∈ tr
  · rw [if_pos h1, if_neg (h.not_both h1), if_pos h1]
  · rw [if_neg h1, if_neg h1]
    split <;> rfl
theorem lv_cases (tr : List Int) (x : Int) : lv tr x = 1 ∨ lv tr x = -1 ∨ lv tr x = 0 := by
  unfold lv; split
  · exact .inl rfl
  · split
    · exact .inr (.inl rfl)
    · exact .inr (.inr rfl)
theorem lv_one {tr : List Int} {x : Int} : lv tr x = 1 ↔ x ∈ tr := by
  unfold lv; split
  · rename_i h; simp [h]
  · rename_i h; split <;> simp [h]
theorem lv_mone {V : Nat} {tr : List Int} (h : TrOk V tr) {x : Int} : lv tr x = -1 ↔ -x ∈ tr := by
  unfold lv; split
  · rename_i h1; simp [h.not_both h1]
  · split
    · rename_i h2; simp [h2]
    · rename_i h2; simp [h2]
set_option maxHeartbeats 4000000 in
theorem of_calls {w : World} {p V : Nat} {tr : List Int} (h : OfAt w p V tr) (ht : TrOk V tr) {x : Int} (h0 : x ≠ 0) (hx : x.natAbs ≤ V) (hV : V < 9223372036854775807) :
    Calls Try.prog 53 #[.pointer (some ⟨p, 0, none⟩), .int .i64 x] w fun e w' => e = .returned (.int .i8 (lv tr x)) ∧ w' = w := by
  obtain ⟨_, g, cap, _, hc, hv⟩ := h
  obtain ⟨v, hvx⟩ : ∃ v, x.natAbs = v := ⟨_, rfl⟩
  have hcv := hv v (by omega)
  clear hv
  by_cases hn : x < 0
  · obtain rfl : x = -(v : Int) := by omega
    rw [lv_neg ht]
    have h1 : IntKind.i64.wrap (- -(v : Int)) = v := by rw [Int.neg_neg]; exact IntWalk.i64_in _ (by omega)
    rcases vof_cases tr v with e | e | e <;> rw [e] at hcv ⊢ <;> clear e ht
    all_goals
      go_enter Try.func53, Try.ntmps53
      go_wp2
      go_ret
      exact ⟨rfl, rfl⟩
  · obtain rfl : x = (v : Int) := by omega
    rw [lv_pos]
    clear ht
    obtain ⟨z, hz⟩ : ∃ z, vof tr v = z := ⟨_, rfl⟩
    rw [hz] at hcv ⊢
    clear hz
    go_enter Try.func53, Try.ntmps53
    go_wp2
    go_ret
    exact ⟨rfl, rfl⟩
end Go.Proofs.Ytjidldfnlejdhaa
end

section
/- Appending to a row among things. No condition on a program. -/
namespace Go.Proofs.Hp
open Go Go.RowKit Go.Proofs.Mp
set_option linter.unusedVariables false
set_option linter.unusedSimpArgs false
/-- append of one element that was laid into a block of its own, to a row among things -/
theorem append_has {P : Program} {ops : Array Oper} {rest : List Oper} {o : Oper} {a : Act} {W w : World} {Ps : List Res} {Q : Exit → Act → World → Prop} (hgd : o.guard = none) {s x : Operand} {t : TypeId}
    (ho : o.op = .call { callee := .builtin .append, args := #[s, x], argTypes := #[t, t] }) {e : Nat} {z : Value} {size bytes : Nat} (ht : P.underlying t = some (.slice e)) (hinfo : (P.info? e).map (fun i => (i.zero, i.size, i.bytes)) = some (some z, size, bytes))
    (hzs : z.cells.size = size) (hsz : 0 < size) {v : Value} {n : Nat} {xs : List Value} (hs : a.eval s = v) {nb c : Nat} {news : List Value} {fr : Nat × Nat} (hx : a.eval x = .slice (some ⟨nb, 0, none⟩) 1 c)
    (h : Has W w (Hp.row e size v n xs :: Ps)) (hnb : w.heap[nb]? = some (.cells news.toArray e fr)) (hl : news.length = size) (h1 : ∀ u ∈ news, u.oneCell' = true) (h63 : n + 1 ≤ maxLen) (hbytes : (n + 1) * bytes ≤ 140737488355328)
    (hnext : ∀ g cap w', Has W w' (Hp.row e size (.slice (some ⟨g, 0, none⟩) (n + 1) cap) (n + 1) (xs ++ news) :: Ps) → Fr v.ownBlock.toList w w' → g < w'.heap.size → wpList P ops Q rest (a.put o.dst (.slice (some ⟨g, 0, none⟩) (n + 1) cap)) w') : wpList P ops Q (o :: rest) a w :=
  append_new hgd ho (base := 0) ht hinfo hzs hsz hs h.row hx hnb hl h1 h63 hbytes (Nat.zero_le _) fun g cap w' h2 _ h3 h4 h5 =>
    hnext g cap w' (h.appended h2 rfl h3 (by rcases h4 with h4 | h4; exact .inl h4; exact .inr (Nat.le_of_eq h4.symm))) h3 h5
/-- append within a row among things -/
theorem inner_has {P : Program} {ops : Array Oper} {rest : List Oper} {o : Oper} {a : Act} {W w : World} {Ps : List Res} {Q : Exit → Act → World → Prop} (hgd : o.guard = none) {s x : Operand} {t : TypeId}
    (ho : o.op = .call { callee := .builtin .append, args := #[s, x], argTypes := #[t, t] }) {e : Nat} {z : Value} {size bytes : Nat} (ht : P.underlying t = some (.slice e)) (hinfo : (P.info? e).map (fun i => (i.zero, i.size, i.bytes)) = some (some z, size, bytes))
    {g cap n j m c : Nat} {xs news : List Value} (hs : a.eval s = .slice (some ⟨g, 0, none⟩) j cap) {ad : Addr} (hx : a.eval x = .slice (some ad) m c) (h : Has W w (Hp.row e size (.slice (some ⟨g, 0, none⟩) n cap) n xs :: Ps))
    (hl : news.length = m * size) (hc : ∀ i u, news[i]? = some u → w.cell? (ad.add i) = some u) (h1 : ∀ u ∈ news, u.oneCell' = true) (hjm : j + m ≤ n)
    (hnext : ∀ w', Has W w' (Hp.row e size (.slice (some ⟨g, 0, none⟩) n cap) n (xs.take (j * size) ++ news ++ xs.drop (j * size + m * size)) :: Ps) → Fr [g] w w' → w'.heap.size = w.heap.size → wpList P ops Q rest (a.put o.dst (.slice (some ⟨g, 0, none⟩) (j + m) cap)) w') : wpList P ops Q (o :: rest) a w :=
  append_inner hgd ho ht hinfo hs h.row hx hl hc h1 hjm fun w' h2 h3 h4 =>
    hnext w' (h.appended (g := g) h2 rfl h3 (.inl rfl)) h3 h4
/-- append of one element of one cell, that was laid into a block of its own, within a row among things -/
theorem inner1_has {P : Program} {ops : Array Oper} {rest : List Oper} {o : Oper} {a : Act} {W w : World} {Ps : List Res} {Q : Exit → Act → World → Prop} (hgd : o.guard = none) {s x : Operand} {t : TypeId}
    (ho : o.op = .call { callee := .builtin .append, args := #[s, x], argTypes := #[t, t] }) {e : Nat} {z : Value} {bytes : Nat} (ht : P.underlying t = some (.slice e)) (hinfo : (P.info? e).map (fun i => (i.zero, i.size, i.bytes)) = some (some z, 1, bytes))
    {g cap n j nb c : Nat} {xs : List Value} {y : Value} {fr : Nat × Nat} (hs : a.eval s = .slice (some ⟨g, 0, none⟩) j cap) (hx : a.eval x = .slice (some ⟨nb, 0, none⟩) 1 c) (h : Has W w (Hp.row e 1 (.slice (some ⟨g, 0, none⟩) n cap) n xs :: Ps))
    (hnb : w.heap[nb]? = some (.cells #[y] e fr)) (h1 : y.oneCell' = true) (hjm : j + 1 ≤ n)
    (hnext : ∀ w', Has W w' (Hp.row e 1 (.slice (some ⟨g, 0, none⟩) n cap) n (xs.take j ++ [y] ++ xs.drop (j + 1)) :: Ps) → Fr [g] w w' → w'.heap.size = w.heap.size → wpList P ops Q rest (a.put o.dst (.slice (some ⟨g, 0, none⟩) (j + 1) cap)) w') : wpList P ops Q (o :: rest) a w :=
  inner_has hgd ho ht hinfo (m := 1) (news := [y]) hs hx h rfl (fun i u hi => by rw [cell_row_add hnb i]; simpa using hi) (by simpa using h1) hjm (by simpa using hnext)
theorem buf_next {buf old kp : List Nat} {i n k : Nat} (hk : kp.length ≤ i) (hb : buf.length = n ∧ buf.take kp.length = kp ∧ buf.drop i = old.drop i) (hi : i < n) (ho : old.drop i = k :: old.drop (i + 1)) :
    (buf.take kp.length ++ [k] ++ buf.drop (kp.length + 1)).length = n ∧ (buf.take kp.length ++ [k] ++ buf.drop (kp.length + 1)).take (kp ++ [k]).length = kp ++ [k] ∧ (buf.take kp.length ++ [k] ++ buf.drop (kp.length + 1)).drop (i + 1) = old.drop (i + 1) := by
  obtain ⟨h1, h2, h3⟩ := hb
  rw [h2]
  refine ⟨by simp; omega, List.take_left' rfl, ?_⟩
  have h4 := congrArg (List.drop 1) h3
  rw [List.drop_drop, List.drop_drop] at h4
  rw [← h4, List.drop_append, List.drop_of_length_le (by simp; omega), List.nil_append, List.drop_drop]
  congr 1
  simp; omega
theorem Has.nvSnoc {W w : World} {T : Nat} {v : Value} {l : List Nat} {k : Nat} {Ps : List Res} (h : Has W w (Hp.row T 1 v (l.length + 1) (nv l ++ [.int .i64 (k : Int)]) :: Ps)) : Has W w (Hp.row T 1 v (l ++ [k]).length (nv (l ++ [k])) :: Ps) := by
  rw [nv_append, List.length_append]
  exact h
theorem Has.nvLen {W w : World} {T n : Nat} {v : Value} {l : List Nat} {Ps : List Res} (h : Has W w (Hp.row T 1 v n (nv l) :: Ps)) (hn : n = l.length) : Has W w (Hp.row T 1 v l.length (nv l) :: Ps) := by
  rw [← hn]
  exact h
theorem nv_conf {buf kp old : List Nat} {k m : Nat} (Z : List Value) (h : buf.take (kp ++ [k]).length = kp ++ [k]) (hm : old.length = m) : ((nv buf).take (kp.length + 1) ++ (nv old ++ Z)).take (kp.length + 1 + m) = nv (kp ++ ([k] ++ old)) := by
  have e : (nv buf).take (kp.length + 1) = nv (kp ++ [k]) := by
    rw [List.length_append] at h
    unfold nv
    rw [← List.map_take]
    congr 1
  rw [e, ← List.append_assoc, ← nv_append, List.take_left', List.append_assoc]
  rw [nv_length]; simp; omega
theorem nv_next (buf : List Nat) (j k : Nat) : nv (buf.take j ++ [k] ++ buf.drop (j + 1)) = (nv buf).take j ++ .int .i64 (k : Int) :: (nv buf).drop (j + 1) := by unfold nv; simp [List.map_take, List.map_drop]
/-- a thing brought to the front, and put back -/
theorem Has.bring {W w : World} {Xs : List Res} (i : Nat) (h : Has W w Xs) : Has W w ((Xs[i]?).toList ++ Xs.eraseIdx i) := by
  cases hi : Xs[i]? with
  | none =>
    rw [List.eraseIdx_of_length_le (by rw [List.getElem?_eq_none_iff] at hi; exact hi)]
    exact h
  | some P => exact h.perm (perm_erase hi)
theorem Has.sink {W w : World} {P : Res} {Xs : List Res} (i : Nat) (h : Has W w (P :: Xs)) : Has W w (Xs.take i ++ P :: Xs.drop i) := by
  refine h.perm ?_
  have h1 : (P :: Xs).Perm (P :: (Xs.take i ++ Xs.drop i)) := by rw [List.take_append_drop]
  exact h1.trans List.perm_middle.symm
theorem owns_form2 {w : World} {base e size n : Nat} {v : Value} {xs : List Value} (h : w.ownsRow base e size v n xs) : ∃ a cap, v = .slice a n cap ∧ (a = none → n = 0 ∧ cap = 0) ∧ ∀ ad, a = some ad → ∃ g, ad = ⟨g, 0, none⟩ := by
  rcases h.2 with ⟨h2, h0⟩ | ⟨g, cap, cur, hv, _⟩
  · exact ⟨none, 0, by rw [h2, h0], fun _ => ⟨h0, rfl⟩, by simp⟩
  · exact ⟨_, cap, hv, by simp, fun ad e => ⟨g, by simpa using e.symm⟩⟩
theorem owns_cap {w : World} {base e size n : Nat} {a : Option Addr} {c : Nat} {xs : List Value} (h : w.ownsRow base e size (.slice a n c) n xs) : n ≤ c := by
  rcases h.2 with ⟨h1, h0⟩ | ⟨g, cap, cur, h1, _, _, h2, _⟩
  · omega
  · cases h1; exact h2
/-- two things have no block in common -/
theorem Has.apart {W w : World} {Ps : List Res} {P Q : Res} (h : Has W w (P :: Q :: Ps)) : ∃ F G, P.holds w F ∧ Q.holds w G ∧ ∀ x ∈ F, x ∉ G := by
  obtain ⟨F, ⟨F1, F2, h1, ⟨G1, G2, g1, g2, g3, rfl⟩, h3, rfl⟩, hf, hge⟩ := h
  exact ⟨F1, G1, h1, g1, fun x hx hx' => h3 x hx (by simp [hx'])⟩
theorem Has.bb {W w : World} {a b : Nat} {o1 o2 : Obj} {Ps : List Res} (h : Has W w (Hp.blk a o1 :: Hp.blk b o2 :: Ps)) : a ≠ b := by
  obtain ⟨F, G, ⟨_, rfl⟩, ⟨_, rfl⟩, h⟩ := h.apart
  rintro rfl
  exact h a (by simp) (by simp)
theorem Has.br {W w : World} {a : Nat} {o1 : Obj} {T size n g c : Nat} {xs : List Value} {Ps : List Res} (h : Has W w (Hp.blk a o1 :: Hp.row T size (.slice (some ⟨g, 0, none⟩) n c) n xs :: Ps)) : a ≠ g := by
  obtain ⟨F, G, ⟨_, rfl⟩, ⟨_, rfl⟩, h⟩ := h.apart
  rintro rfl
  exact h a (by simp) (by simp [Value.ownBlock])
theorem Has.rr {W w : World} {T size n g c T2 size2 n2 g2 c2 : Nat} {xs ys : List Value} {Ps : List Res} (h : Has W w (Hp.row T size (.slice (some ⟨g, 0, none⟩) n c) n xs :: Hp.row T2 size2 (.slice (some ⟨g2, 0, none⟩) n2 c2) n2 ys :: Ps)) : g ≠ g2 := by
  obtain ⟨F, G, ⟨_, rfl⟩, ⟨_, rfl⟩, h⟩ := h.apart
  rintro rfl
  exact h g (by simp [Value.ownBlock]) (by simp [Value.ownBlock])
/-- numbers up to a bound, each once -/
theorem pigeon : ∀ {n : Nat} {l : List Nat}, l.Nodup → (∀ x ∈ l, 1 ≤ x ∧ x ≤ n) → l.length ≤ n
  | 0, l, hn, h => by
    cases l with
    | nil => simp
    | cons x l => have := h x (by simp); omega
  | n + 1, l, hn, h => by
    by_cases hm : n + 1 ∈ l
    · have h1 := (List.perm_cons_erase hm).length_eq
      have h2 := pigeon (n := n) (hn.erase (n + 1)) fun x hx => by
        have h3 := h x (List.mem_of_mem_erase hx)
        have h4 : x ≠ n + 1 := by
          rintro rfl
          exact absurd hx (List.Nodup.not_mem_erase hn)
        omega
      rw [List.length_cons] at h1
      omega
    · have := pigeon (n := n) hn fun x hx => by
        have h3 := h x hx
        have h4 : x ≠ n + 1 := by rintro rfl; exact hm hx
        omega
      omega
end Go.Proofs.Hp
end

section
/- solve: a literal is made true. -/
namespace Go.Proofs.Ytjidldfnlejdhaa
open Go Go.RowKit Go.Proofs.Rg Go.Proofs.Mp Go.Proofs.Hp Go.Proofs.Sv
set_option linter.unusedVariables false
set_option linter.unusedSimpArgs false
theorem tr_len {V : Nat} {tr : List Int} (h : TrOk V tr) : tr.length ≤ V := by
  have := pigeon (n := V) h.2 fun x hx => by
    obtain ⟨y, hy, rfl⟩ := List.mem_map.1 hx
    have := h.1 y hy
    omega
  simpa using this
theorem vof_pos {tr : List Int} {v u : Nat} (hv : 1 ≤ v) : vof (tr ++ [(v : Int)]) u = if u = v then 1 else vof tr u := by
  unfold vof
  by_cases h : u = v
  · subst h; simp
  · rw [if_neg h]
    have h1 : (u : Int) ∈ tr ++ [(v : Int)] ↔ (u : Int) ∈ tr := by simp; omega
    have h2 : -(u : Int) ∈ tr ++ [(v : Int)] ↔ -(u : Int) ∈ tr := by simp; omega
    simp only [h1, h2]
theorem vof_neg {tr : List Int} {v u : Nat} (hv : 1 ≤ v) (hn : (v : Int) ∉ tr) : vof (tr ++ [-(v : Int)]) u = if u = v then -1 else vof tr u := by
  unfold vof
  by_cases h : u = v
  · subst h
    have h1 : (u : Int) ∉ tr ++ [-(u : Int)] := by simp [hn]; omega
    rw [if_neg h1, if_pos rfl]; simp
  · rw [if_neg h]
    have h1 : (u : Int) ∈ tr ++ [-(v : Int)] ↔ (u : Int) ∈ tr := by simp; omega
    have h2 : -(u : Int) ∈ tr ++ [-(v : Int)] ↔ -(u : Int) ∈ tr := by simp; omega
    simp only [h1, h2]
theorem vals_set {V v : Nat} {tr tr' : List Int} {z : Int} (h : ∀ u, vof tr' u = if u = v then z else vof tr u) : (vals V tr).set v (.int .i8 z) = vals V tr' := by
  apply List.ext_getElem?
  intro i
  unfold vals
  rw [List.getElem?_set, List.getElem?_map, List.getElem?_map]
  by_cases hi : i < V + 1
  · rw [List.getElem?_range hi]
    simp only [Option.map_some, h, List.length_map, List.length_range]
    by_cases e : v = i
    · subst e; simp [hi]
    · rw [if_neg e, if_neg (fun q => e q.symm)]
  · rw [List.getElem?_eq_none (l := List.range (V + 1)) (by simp; omega)]
    simp; omega
set_option maxHeartbeats 4000000 in
/-- set, at the engine's block and the rows of values and of the trail -/
theorem set_gen {W w : World} {Ps : List Res} {p V : Nat} {q0 q1 q4 q5 q6 vv tv : Value} {tr : List Int} (h : Has W w (blk p (.cells #[q0, q1, vv, tv, q4, q5, q6] 80 (0, 0)) :: Hp.row 83 1 vv (V + 1) (vals V tr) :: Hp.row 3 1 tv tr.length (iv tr) :: Ps)) (ht : TrOk V tr) (hV : V ≤ 65536) {x : Int} (h0 : x ≠ 0) (hx : x.natAbs ≤ V) (hn : x ∉ tr ∧ -x ∉ tr) :
    Calls Try.prog 54 #[.pointer (some ⟨p, 0, none⟩), .int .i64 x] w fun e w' => e = .returned (.tuple #[]) ∧ ∃ tv', Has W w' (blk p (.cells #[q0, q1, vv, tv', q4, q5, q6] 80 (0, 0)) :: Hp.row 83 1 vv (V + 1) (vals V (tr ++ [x])) :: Hp.row 3 1 tv' (tr ++ [x]).length (iv (tr ++ [x])) :: Ps) := by
  have hl := tr_len ht
  obtain ⟨v, hvx⟩ : ∃ v, x.natAbs = v := ⟨_, rfl⟩
  have hb := h.blk
  have h5 := (h.bring 1).row
  obtain ⟨a, cap, rfl, ha, _⟩ := owns_form h5
  obtain ⟨g, rfl⟩ := ha (by omega)
  have h6 := (h.bring 2).row
  obtain ⟨ta, tc, rfl, _, _⟩ := owns_form h6
  have hcv := owns_cell h5 rfl (vals_get (tr := tr) (show v ≤ V by omega))
  have hzv := owns_frozen h5 rfl v
  have hgl := owns_lt h5 rfl
  have c2 : _ = some _ := heap_eq_cell hb 2
  have c3 : _ = some _ := heap_eq_cell hb 3
  have z3 := heap_eq_frozen hb 3
  have cl := lt_of_block hb
  have hpg : p ≠ g := h.br
  have hmaxl : (65537 : Nat) ≤ maxLen := by decide
  have H0 := Lib.hid ht
  have HN := Lib.hid hn
  have H := Lib.hid h
  clear h hb h5 h6 ht hn ha
  by_cases hneg : x < 0
  · obtain rfl : x = -(v : Int) := by omega
    have hdec : decide (-(v : Int) > 0) = false := by simp
    have h1 : IntKind.i64.wrap (- -(v : Int)) = v := by rw [Int.neg_neg]; exact IntWalk.i64_in _ (by omega)
    have hs := vals_set (V := V) (fun u => vof_neg (u := u) (show 1 ≤ v by omega) (by have := HN.out.2; rwa [Int.neg_neg] at this))
    have H1 := Lib.hid (((H.out.bring 1).rowSet (j := v) (by simp [vals]; omega) (.int .i8 (-1))).bring 2)
    rw [hs] at H1
    simp only [List.filterMap_cons, List.filterMap_nil, List.getElem?_cons_zero, List.getElem?_cons_succ, List.drop_succ_cons, List.drop_zero, List.cons_append, List.nil_append, List.take_succ_cons, List.take_zero, List.eraseIdx_cons_succ, List.eraseIdx_zero, List.eraseIdx_cons_zero, List.tail_cons, Option.toList_some] at H1
    clear hs
    go_enter Try.func54, Try.ntmps54
    go_wp2_with (at_builtin; refine append_has (W := W) (size := 1) (bytes := 8) (z := .int .i64 0) (e := 3) (n := tr.length) (xs := iv tr) (news := [.int .i64 (-(v : Int))]) rfl rfl Try.underlying51 (by kernel_rfl) rfl (by decide) rfl rfl ((H1.out.step (by (repeat first | exact Fr.refl _ _ | assumption | apply Fr.n | apply Fr.d | apply Fr.a | refine Fr.s ?_ (.inr (by simp; try omega)) _)))) (by (repeat first | rw [if_pos (by omega)] | rw [if_neg (by omega)] | rw [hp_drew] | rw [hp_drewN] | rw [hp_alloc_size] | rw [hp_setCell_size] | rw [hp_alloc] | rw [hp_setCell] | rw [oMS] | rw [upd_cells] | rw [lSZ] | rw [lSS] | rfl)) rfl (by simp [Value.oneCell']) ?b1 ?b2 ?_)
    case b1 => have : (65537 : Nat) ≤ maxLen := by decide
               omega
    case b2 => omega
    intro g2 cap2 w2 h2 hf2 hg2
    have hb2 := (h2.bring 2).blk
    clear c2 c3 z3 cl hcv hzv
    have c3 : _ = some _ := heap_eq_cell hb2 3
    have z3 := heap_eq_frozen hb2 3
    have cl := lt_of_block hb2
    have H2 := Lib.hid h2
    clear h2 hb2 hf2 hg2
    go_wp2
    go_end0
    refine ⟨rfl, .slice (some ⟨g2, 0, none⟩) (tr.length + 1) cap2, ?_⟩
    have h3 := ((H2.out.bring 2).blkSet 3 (.slice (some ⟨g2, 0, none⟩) (tr.length + 1) cap2)).ord 3 [0, 2, 1]
    rw [List.length_append, show iv (tr ++ [(-(v : Int))]) = iv tr ++ [.int .i64 ((-(v : Int)))] by simp [iv]]
    exact h3
  · obtain rfl : x = (v : Int) := by omega
    have hdec : decide ((v : Int) > 0) = true := by simp; omega
    have hs := vals_set (V := V) (tr := tr) (fun u => vof_pos (u := u) (show 1 ≤ v by omega))
    have H1 := Lib.hid (((H.out.bring 1).rowSet (j := v) (by simp [vals]; omega) (.int .i8 1)).bring 2)
    rw [hs] at H1
    simp only [List.filterMap_cons, List.filterMap_nil, List.getElem?_cons_zero, List.getElem?_cons_succ, List.drop_succ_cons, List.drop_zero, List.cons_append, List.nil_append, List.take_succ_cons, List.take_zero, List.eraseIdx_cons_succ, List.eraseIdx_zero, List.eraseIdx_cons_zero, List.tail_cons, Option.toList_some] at H1
    clear hs
    go_enter Try.func54, Try.ntmps54
    go_wp2_with (at_builtin; refine append_has (W := W) (size := 1) (bytes := 8) (z := .int .i64 0) (e := 3) (n := tr.length) (xs := iv tr) (news := [.int .i64 ((v : Int))]) rfl rfl Try.underlying51 (by kernel_rfl) rfl (by decide) rfl rfl ((H1.out.step (by (repeat first | exact Fr.refl _ _ | assumption | apply Fr.n | apply Fr.d | apply Fr.a | refine Fr.s ?_ (.inr (by simp; try omega)) _)))) (by (repeat first | rw [if_pos (by omega)] | rw [if_neg (by omega)] | rw [hp_drew] | rw [hp_drewN] | rw [hp_alloc_size] | rw [hp_setCell_size] | rw [hp_alloc] | rw [hp_setCell] | rw [oMS] | rw [upd_cells] | rw [lSZ] | rw [lSS] | rfl)) rfl (by simp [Value.oneCell']) ?b1 ?b2 ?_)
    case b1 => have : (65537 : Nat) ≤ maxLen := by decide
               omega
    case b2 => omega
    intro g2 cap2 w2 h2 hf2 hg2
    have hb2 := (h2.bring 2).blk
    clear c2 c3 z3 cl hcv hzv
    have c3 : _ = some _ := heap_eq_cell hb2 3
    have z3 := heap_eq_frozen hb2 3
    have cl := lt_of_block hb2
    have H2 := Lib.hid h2
    clear h2 hb2 hf2 hg2
    go_wp2
    go_end0
    refine ⟨rfl, .slice (some ⟨g2, 0, none⟩) (tr.length + 1) cap2, ?_⟩
    have h3 := ((H2.out.bring 2).blkSet 3 (.slice (some ⟨g2, 0, none⟩) (tr.length + 1) cap2)).ord 3 [0, 2, 1]
    rw [List.length_append, show iv (tr ++ [((v : Int))]) = iv tr ++ [.int .i64 (((v : Int)))] by simp [iv]]
    exact h3
theorem set_calls {W w : World} {Ps : List Res} {p V : Nat} {CV : List (Value × List Int)} {L : List (Int × (Value × List Nat))} {tr : List Int} {dn : Nat} {D : List Dec} {bad : Bool} (h : Has W w (engR p V CV L tr dn D bad :: Ps)) (ht : TrOk V tr) (hV : V ≤ 65536) {x : Int} (h0 : x ≠ 0) (hx : x.natAbs ≤ V) (hn : x ∉ tr ∧ -x ∉ tr) :
    Calls Try.prog 54 #[.pointer (some ⟨p, 0, none⟩), .int .i64 x] w fun e w' => e = .returned (.tuple #[]) ∧ Has W w' (engR p V CV L (tr ++ [x]) dn D bad :: Ps) := by
  obtain ⟨mb, cv, vv, tv, dv, h⟩ := eng_open h
  simp only [engL, List.cons_append, List.nil_append] at h
  refine (set_gen (h.ord 8 [0, 5, 6, 1, 2, 3, 4, 7]) ht hV h0 hx hn).mono ?_
  rintro e w' ⟨he, tv', h'⟩
  refine ⟨he, eng_close (mb := mb) (cv := cv) (vv := vv) (tv := tv') (dv := dv) ?_⟩
  simp only [engL, List.cons_append, List.nil_append]
  exact h'.ord 8 [0, 3, 4, 5, 6, 1, 2, 7]
end Go.Proofs.Ytjidldfnlejdhaa
end

section
/- solve: a decision. -/
namespace Go.Proofs.Ytjidldfnlejdhaa
open Go Go.RowKit Go.Proofs.Rg Go.Proofs.Mp Go.Proofs.Hp Go.Proofs.Sv
set_option linter.unusedVariables false
set_option linter.unusedSimpArgs false
theorem run_max2 {x m : Int} (h : max x (-x) = m) (w : World) : (Builtin.max_ #[3, 3] 3 #[.int .i64 x, .int .i64 (-x)]).run Try.prog w = .ok (.int .i64 m) w := by
  subst h
  unfold Builtin.max_
  simp [Builtin.max2]
  omega
theorem dcs_len (D : List Dec) : (dcs D).length = D.length * 3 := by
  unfold dcs
  induction D with
  | nil => rfl
  | cons d D ih => rw [List.reverse_cons, List.flatMap_append, List.length_append, ih]; simp [Nat.add_mul]
theorem dcs_cons (d : Dec) (D : List Dec) : dcs (d :: D) = dcs D ++ [.int .i64 (d.v : Int), .int .i64 (d.t : Int), .bool d.tn] := by unfold dcs; rw [List.reverse_cons, List.flatMap_append]; rfl
set_option maxHeartbeats 4000000 in
theorem decide_calls {W w : World} {Ps : List Res} {p V : Nat} {CV : List (Value × List Int)} {L : List (Int × (Value × List Nat))} {tr : List Int} {dn : Nat} {D : List Dec} {bad : Bool} (h : Has W w (engR p V CV L tr dn D bad :: Ps)) (ht : TrOk V tr) (hV : V ≤ 65536) (hD : D.length ≤ V) {x : Int} (h0 : x ≠ 0) (hx : x.natAbs ≤ V) (hn : x ∉ tr ∧ -x ∉ tr) (tn : Bool) :
    Calls Try.prog 56 #[.pointer (some ⟨p, 0, none⟩), .int .i64 x, .bool tn] w fun e w' => e = .returned (.tuple #[]) ∧ Has W w' (engR p V CV L (tr ++ [x]) dn (⟨x.natAbs, tr.length, tn⟩ :: D) bad :: Ps) := by
  obtain ⟨mb, cv, vv, tv, dv, h⟩ := eng_open h
  simp only [engL, List.cons_append, List.nil_append] at h
  have hl := tr_len ht
  obtain ⟨v, hvx⟩ : ∃ v, x.natAbs = v := ⟨_, rfl⟩
  have hb := h.blk
  obtain ⟨ta, tc, rfl, _, _⟩ := owns_form (h.bring 6).row
  obtain ⟨da, dc, rfl, _, _⟩ := owns_form (h.bring 7).row
  have c3 : _ = some _ := heap_eq_cell hb 3
  have c5 : _ = some _ := heap_eq_cell hb 5
  have z5 := heap_eq_frozen hb 5
  have cl := lt_of_block hb
  have hmaxl : (65537 : Nat) ≤ maxLen := by decide
  have hw1 : IntKind.i64.wrap (-x) = -x := IntWalk.i64_in _ (by omega)
  have hmx := fun w => run_max2 (x := x) (m := (v : Int)) (by omega) w
  have H0 := Lib.hid ht
  have HN := Lib.hid hn
  have hdl : D.length + 1 ≤ maxLen ∧ (D.length + 1) * 24 ≤ 140737488355328 := by omega
  have HDL := Lib.hid hdl
  have hxx := Lib.hid (And.intro h0 hx)
  have hvv := Lib.hid hvx
  have H1 := Lib.hid (h.bring 7)
  clear h hb ht hn hD hdl h0 hx hvx hl
  simp only [List.filterMap_cons, List.filterMap_nil, List.getElem?_cons_zero, List.getElem?_cons_succ, List.drop_succ_cons, List.drop_zero, List.cons_append, List.nil_append, List.take_succ_cons, List.take_zero, List.eraseIdx_cons_succ, List.eraseIdx_zero, List.eraseIdx_cons_zero, List.tail_cons, Option.toList_some] at H1
  go_enter Try.func56, Try.ntmps56
  go_wp2
  (refine wp_region_text (by kernel_rfl) (by kernel_rfl) ?_)
  go_wp2_with (at_builtin; refine append_has (W := W) (size := 3) (bytes := 24) (z := .agg #[.int .i64 0, .int .i64 0, .bool false]) (e := 88) (n := D.length) (xs := dcs D) (news := [.int .i64 (v : Int), .int .i64 (tr.length : Int), .bool tn]) rfl rfl Try.underlying78 (by kernel_rfl) rfl (by decide) rfl rfl (H1.out.step (by (repeat first | exact Fr.refl _ _ | assumption | apply Fr.n | apply Fr.d | apply Fr.a | refine Fr.s ?_ (.inr (by simp; try omega)) _))) (by (repeat first | rw [if_pos (by omega)] | rw [if_neg (by omega)] | rw [hp_drew] | rw [hp_drewN] | rw [hp_alloc_size] | rw [hp_setCell_size] | rw [hp_alloc] | rw [hp_setCell] | rw [oMS] | rw [upd_cells] | rw [lSZ] | rw [lSS] | rfl)) rfl (by simp [Value.oneCell']) HDL.out.1 HDL.out.2 ?_)
  intro g2 cap2 w2 h2 hf2 hg2
  have hb2 := (h2.bring 1).blk
  clear c3 c5 z5 cl
  have c5 : _ = some _ := heap_eq_cell hb2 5
  have z5 := heap_eq_frozen hb2 5
  have cl := lt_of_block hb2
  have H2 := Lib.hid h2
  clear h2 hb2 hf2 hg2 H1
  go_wp2
  refine Strict.intro rfl ?_
  go_wp2_with fail
  refine (set_calls (W := W) (Ps := Ps) (CV := CV) (L := L) (dn := dn) (D := ⟨v, tr.length, tn⟩ :: D) (bad := bad) (eng_close (mb := mb) (cv := cv) (vv := vv) (tv := .slice ta tr.length tc) (dv := .slice (some ⟨g2, 0, none⟩) (D.length + 1) cap2) ?hh) H0.out hV hxx.out.1 hxx.out.2 HN.out).mono ?_
  case hh =>
    have h3 := ((H2.out.bring 1).blkSet 5 (.slice (some ⟨g2, 0, none⟩) (D.length + 1) cap2)).ord 8 [0, 2, 3, 4, 5, 6, 7, 1]
    simp only [engL, List.cons_append, List.nil_append]
    rw [dcs_cons]
    exact h3
  rintro e w3 ⟨rfl, h4⟩
  have H4 := Lib.hid h4
  clear h4 H2
  go_wp2
  go_end0
  rw [hvv.out]
  exact ⟨rfl, H4.out⟩
end Go.Proofs.Ytjidldfnlejdhaa
end

section
/- solve: the last decision is undone. -/
namespace Go.Proofs.Ytjidldfnlejdhaa
open Go Go.RowKit Go.Proofs.Rg Go.Proofs.Mp Go.Proofs.Hp Go.Proofs.Sv
set_option linter.unusedVariables false
set_option linter.unusedSimpArgs false
/-- the values while some are struck -/
def valz (V : Nat) (tr : List Int) (Z : List Nat) : List Value := (List.range (V + 1)).map fun v => Value.int .i8 (if v ∈ Z then 0 else vof tr v)
theorem valz_nil (V : Nat) (tr : List Int) : valz V tr [] = vals V tr := by simp [valz, vals]
theorem valz_len (V : Nat) (tr : List Int) (Z : List Nat) : (valz V tr Z).length = V + 1 := by simp [valz]
theorem valz_set {V : Nat} {tr : List Int} {Z : List Nat} {v : Nat} : (valz V tr Z).set v (.int .i8 0) = valz V tr (Z ++ [v]) := by
  apply List.ext_getElem?
  intro i
  unfold valz
  rw [List.getElem?_set, List.getElem?_map, List.getElem?_map]
  by_cases hi : i < V + 1
  · rw [List.getElem?_range hi]
    simp only [Option.map_some, List.length_map, List.length_range, List.mem_append, List.mem_singleton]
    by_cases e : v = i
    · subst e; simp [hi]
    · rw [if_neg e]
      simp only [show ¬ i = v from fun q => e q.symm, or_false]
  · rw [List.getElem?_eq_none (l := List.range (V + 1)) (by simp; omega)]
    simp; omega
theorem valz_all {V : Nat} {tr : List Int} (h : TrOk V tr) (t : Nat) : valz V tr ((tr.drop t).map Int.natAbs) = vals V (tr.take t) := by
  unfold valz vals
  apply List.map_congr_left
  intro v hv
  congr 1
  have key : ∀ x : Int, x ∈ tr → (x ∈ tr.take t ↔ x.natAbs ∉ (tr.drop t).map Int.natAbs) := by
    intro x hx
    have hnd := h.2
    rw [← List.take_append_drop t tr, List.map_append, List.nodup_append] at hnd
    constructor
    · intro h1 h2
      exact hnd.2.2 _ (List.mem_map_of_mem h1) _ h2 rfl
    · intro h1
      rw [← List.take_append_drop t tr, List.mem_append] at hx
      rcases hx with hx | hx
      · exact hx
      · exact absurd (List.mem_map_of_mem hx) h1
  unfold vof
  by_cases h1 : v ∈ (tr.drop t).map Int.natAbs
  · rw [if_pos h1]
    have a : (v : Int) ∉ tr.take t := fun e => (key _ (List.mem_of_mem_take e)).1 e (by simpa using h1)
    have b : -(v : Int) ∉ tr.take t := fun e => (key _ (List.mem_of_mem_take e)).1 e (by simpa using h1)
    rw [if_neg a, if_neg b]
  · rw [if_neg h1]
    have a : (v : Int) ∈ tr ↔ (v : Int) ∈ tr.take t := ⟨fun e => (key _ e).2 (by simpa using h1), List.mem_of_mem_take⟩
    have b : -(v : Int) ∈ tr ↔ -(v : Int) ∈ tr.take t := ⟨fun e => (key _ e).2 (by simpa using h1), List.mem_of_mem_take⟩
    simp only [a, b]
theorem res_cell1 {fn : Func} {p : Tmp} {ty : TypeId} (h : fn.results = #[.cell p ty]) (tmps : Array Value) (P : Program) (w : World) :
    (results fn tmps).run P w = ((asAddr (tmps.getD p undef)).run P w).andThen fun a w₁ => (loadVar ty a).run P w₁ := by
  simp only [results, h]
  simp [Sem.run_bind, Result.andThen]
theorem dec_result {fn : Func} {p : Tmp} (h : fn.results = #[.cell p 88]) {tmps : Array Value} {b : Nat} {w' : World} {x y z : Value} (h4 : tmps.getD p undef = .pointer (some ⟨b, 0, none⟩)) (hb : w'.heap[b]? = some (.cells #[x, y, z] 88 (0, 0))) :
    (results fn tmps).run Try.prog w' = .ok (.agg #[x, y, z]) w' := by
  rw [res_cell1 h, h4]
  simp only [asAddr, Sem.run_pure, Result.andThen]
  rw [run_loadVar_row w' b _ _ _ _ _ hb Try.underlying88 rfl (by kernel_rfl)]
def backL (p V : Nat) (CV : List (Value × List Int)) (L : List (Int × (Value × List Nat))) (mb : Nat) (cv vv tv dv : Value) (tr : List Int) (dn : Nat) (d : Dec) (D : List Dec) (bad : Bool) (db rb i : Nat) : List Res :=
  [blk db (.cells #[.int .i64 (d.v : Int), .int .i64 (d.t : Int), .bool d.tn] 88 (0, 0)), blk rb (.cells #[.int .i64 0, .int .i64 0, .bool false] 88 (0, 0)),
   blk p (.cells #[cv, .map (some mb), vv, tv, .int .i64 (dn : Int), dv, .bool bad] 80 (0, 0)),
   Hp.row 51 1 cv CV.length (CV.map (·.1)), bun (CV.map rowC), mapT mb (fun n : Int => Value.int .i64 n) (fun q : Value × List Nat => q.1) L, bun (L.map (rowI 3)),
   Hp.row 83 1 vv (V + 1) (valz V tr (((tr.drop d.t).take i).map Int.natAbs)), Hp.row 3 1 tv tr.length (iv tr), Hp.row 88 3 dv D.length (dcs D)]
theorem meas_lt {i n : Nat} (h : i < n) : n - ((i : Int) + 1).toNat < n - (i : Int).toNat := by omega
set_option maxHeartbeats 4000000 in
theorem back_calls {W w : World} {Ps : List Res} {p V : Nat} {CV : List (Value × List Int)} {L : List (Int × (Value × List Nat))} {tr : List Int} {dn : Nat} {d : Dec} {D : List Dec} {bad : Bool} (h : Has W w (engR p V CV L tr dn (d :: D) bad :: Ps)) (ht : TrOk V tr) (hV : V ≤ 65536) (hD : (d :: D).length ≤ V) (hdt : d.t < tr.length) :
    Calls Try.prog 59 #[.pointer (some ⟨p, 0, none⟩)] w fun e w' => e = .returned (.agg #[.int .i64 (d.v : Int), .int .i64 (d.t : Int), .bool d.tn]) ∧ Has W w' (engR p V CV L (tr.take d.t) d.t D bad :: Ps) := by
  obtain ⟨mb, cv, vv, tv, dv, h⟩ := eng_open h
  simp only [engL, List.cons_append, List.nil_append] at h
  have hl := tr_len ht
  have hb := h.blk
  obtain ⟨ta, tc, rfl, hta, _⟩ := owns_form (h.bring 6).row
  obtain ⟨da, dc, rfl, hda, _⟩ := owns_form (h.bring 7).row
  have hDl : (d :: D).length = D.length + 1 := rfl
  rw [hDl] at hD h hb hda
  obtain ⟨g, rfl⟩ := hda (by omega)
  have hdr := (h.bring 7).row
  rw [dcs_cons] at hdr
  have d0 := owns_cell hdr rfl (j := D.length * 3) (u := .int .i64 (d.v : Int)) (by rw [List.getElem?_append_right (by rw [dcs_len]; omega), dcs_len]; simp)
  have d1 := owns_cell hdr rfl (j := D.length * 3 + 1) (u := .int .i64 (d.t : Int)) (by rw [List.getElem?_append_right (by rw [dcs_len]; omega), dcs_len]; simp)
  have d2 := owns_cell hdr rfl (j := D.length * 3 + 2) (u := .bool d.tn) (by rw [List.getElem?_append_right (by rw [dcs_len]; omega), dcs_len]; simp)
  have hgl := owns_lt hdr rfl
  have hdc := owns_cap hdr
  have htcap := owns_cap (h.bring 6).row
  have c3 : _ = some _ := heap_eq_cell hb 3
  have c5 : _ = some _ := heap_eq_cell hb 5
  have z5 := heap_eq_frozen hb 5
  have cl := lt_of_block hb
  have HT := Lib.hid ht
  have H := Lib.hid h
  obtain ⟨g2, rfl⟩ := hta (by omega)
  obtain ⟨gv0, capv, rfl, hgv, _⟩ := owns_form (H.out.bring 5).row
  obtain ⟨gv, rfl⟩ := hgv (by omega)
  have h1 : Has W (((w.setCell ⟨p, 5, none⟩ (.slice (some ⟨g, 0, none⟩) D.length dc)).alloc (.cells #[.int .i64 0, .int .i64 0, .bool false] 88 (0, 0))).alloc (.cells #[.int .i64 (d.v : Int), .int .i64 (d.t : Int), .bool d.tn] 88 (0, 0))) (backL p V CV L mb cv (.slice (some ⟨gv, 0, none⟩) (V + 1) capv) (.slice (some ⟨g2, 0, none⟩) tr.length tc) (.slice (some ⟨g, 0, none⟩) D.length dc) tr dn d D bad (w.heap.size + 1) w.heap.size 0 ++ Ps) := by
    have h2 := ((H.out.blkSet 5 (.slice (some ⟨g, 0, none⟩) D.length dc)).bring 7).rowCut (m := D.length) (by omega)
    rw [dcs_cons, List.take_append_of_le_length (by rw [dcs_len]; omega), List.take_of_length_le (by rw [dcs_len]; omega)] at h2
    have h3 := (h2.newBlk (.cells #[.int .i64 0, .int .i64 0, .bool false] 88 (0, 0))).newBlk (.cells #[.int .i64 (d.v : Int), .int .i64 (d.t : Int), .bool d.tn] 88 (0, 0))
    have h4 := h3.ord 10 [0, 1, 3, 4, 5, 6, 7, 8, 9, 2]
    simp only [hp_alloc_size, hp_setCell_size] at h4
    unfold backL
    rw [List.take_zero, List.map_nil, valz_nil]
    exact h4
  have H1 := Lib.hid h1
  clear h1 h hb ht hdr hta hda hgv H
  go_enter Try.func59, Try.ntmps59
  go_wp2
  clear d0 d1 d2 hgl c3 c5 z5 cl
  obtain ⟨rb, hrb⟩ : ∃ x, w.heap.size = x := ⟨_, rfl⟩
  obtain ⟨db, hdb⟩ : ∃ x, rb + 1 = x := ⟨_, rfl⟩
  rw [hrb, hdb] at H1 ⊢
  refine abs_world (fun w' => Has W w' (backL p V CV L mb cv (.slice (some ⟨gv, 0, none⟩) (V + 1) capv) (.slice (some ⟨g2, 0, none⟩) tr.length tc) (.slice (some ⟨g, 0, none⟩) D.length dc) tr dn d D bad db rb 0 ++ Ps)) H1.out ?_
  intro w1 h1
  clear H1 hrb hdb
  have hb := (h1.bring 2).blk
  have c3 : _ = some _ := heap_eq_cell hb 3
  have cl := lt_of_block hb
  have hb4 := h1.blk
  have f1 : _ = some _ := heap_eq_cell hb4 1
  have fl := lt_of_block hb4
  have hne : ¬ tc = d.t := by omega
  have H1 := Lib.hid h1
  clear h1 hb hb4
  (refine wp_region_text (by kernel_rfl) (by kernel_rfl) ?_)
  go_wp2
  refine Strict.intro rfl ?_
  go_wp2
  clear c3 cl f1 fl
  obtain ⟨n, hn⟩ : ∃ n, tr.length - d.t = n := ⟨_, rfl⟩
  rw [hn]
  go_loopw [37] (fun z wr => ∃ i : Nat, i ≤ n ∧ z = .int .i64 (i : Int) ∧ Has W wr (backL p V CV L mb cv (.slice (some ⟨gv, 0, none⟩) (V + 1) capv) (.slice (some ⟨g2, 0, none⟩) tr.length tc) (.slice (some ⟨g, 0, none⟩) D.length dc) tr dn d D bad db rb i ++ Ps)) (fun z _ => n - (intOf z).toNat)
  case atStart => exact ⟨0, Nat.zero_le _, rfl, H1.out.step (by (repeat first | exact Fr.refl _ _ | assumption | apply Fr.n | apply Fr.d | apply Fr.a | refine Fr.s ?_ (.inr (by simp; try omega)) _))⟩
  case round =>
    obtain ⟨i, hi, rfl, h1⟩ := hrel
    clear H1
    have h6 := (h1.bring 8).row
    have h5 := (h1.bring 7).row
    have hb := (h1.bring 2).blk
    have hb4 := h1.blk
    by_cases hin : i < n
    · obtain ⟨x, hx⟩ : ∃ x, tr[d.t + i]? = some x := ⟨_, List.getElem?_eq_getElem (by omega)⟩
      have hxm := HT.out.1 x (List.mem_of_getElem? hx)
      obtain ⟨v, hv⟩ : ∃ v, x.natAbs = v := ⟨_, rfl⟩
      have hcx := owns_cell h6 rfl (iv_get hx)
      have hcl := owns_lt h6 rfl
      have c2 : _ = some _ := heap_eq_cell hb 2
      have cl := lt_of_block hb
      have hvl : v < (valz V tr (((tr.drop d.t).take i).map Int.natAbs)).length := by rw [valz_len]; omega
      obtain ⟨y, hy⟩ : ∃ y, (valz V tr (((tr.drop d.t).take i).map Int.natAbs))[v]? = some y := ⟨_, List.getElem?_eq_getElem hvl⟩
      have hcv := owns_cell h5 rfl hy
      have hzv := owns_frozen h5 rfl v
      have hvlt := owns_lt h5 rfl
      have hmx := fun w => run_max2 (x := x) (m := (v : Int)) (by omega) w
      have hw1 : IntKind.i64.wrap (-x) = -x := IntWalk.i64_in _ (by omega)
      have hvV : v < V + 1 := by omega
      have htk : (((tr.drop d.t).take i).map Int.natAbs) ++ [v] = ((tr.drop d.t).take (i + 1)).map Int.natAbs := by
        rw [List.take_add_one, List.getElem?_drop, hx, List.map_append]
        simp [hv]
      have HTK := Lib.hid htk
      have H1 := Lib.hid (((h1.bring 7).rowSet hvl (.int .i8 0)))
      rw [valz_set, htk] at H1
      have hxx := Lib.hid (And.intro hxm (And.intro hv hvl))
      have hn6 : n ≤ 65536 := by omega
      have hnn := Lib.hid hn
      have hdn := Lib.hid (And.intro hdt hi)
      clear h1 h6 h5 hb hb4 htk hxm hvl hy hx hv hn hdt hi
      go_wp2
      go_roundw
      case rel =>
        refine ⟨i + 1, hin, by simp, ?_⟩
        exact H1.out.ord 10 [1, 2, 3, 4, 5, 6, 7, 0, 8, 9]
      case measure =>
        simp only [intOf]
        exact meas_lt hin
    · obtain rfl : i = n := by omega
      have hti : ((tr.drop d.t).take i) = tr.drop d.t := List.take_of_length_le (by simp; omega)
      have c2 : _ = some _ := heap_eq_cell hb 2
      have c3 : _ = some _ := heap_eq_cell hb 3
      have c4 : _ = some _ := heap_eq_cell hb 4
      have z3 := heap_eq_frozen hb 3
      have z4 := heap_eq_frozen hb 4
      have cl := lt_of_block hb
      have f0 : _ = some _ := heap_eq_cell hb4 0
      have f1 : _ = some _ := heap_eq_cell hb4 1
      have f2 : _ = some _ := heap_eq_cell hb4 2
      have fl := lt_of_block hb4
      have hbr := (h1.bring 1).blk
      have r0 : _ = some _ := heap_eq_cell hbr 0
      have r1 : _ = some _ := heap_eq_cell hbr 1
      have r2 : _ = some _ := heap_eq_cell hbr 2
      have rz0 := heap_eq_frozen hbr 0
      have rz1 := heap_eq_frozen hbr 1
      have rz2 := heap_eq_frozen hbr 2
      have rl := lt_of_block hbr
      have hpr : p ≠ rb := (h1.ord 10 [2, 1]).bb
      have hdr : db ≠ rb := (h1.ord 10 [0, 1]).bb
      have hpd : p ≠ db := (h1.ord 10 [2, 0]).bb
      unfold backL at h1
      rw [hti, valz_all HT.out] at h1
      simp only [List.cons_append, List.nil_append] at h1
      have H1 := Lib.hid h1
      clear h1 h5 h6 hb hb4 hbr hti
      go_wp2
      (refine wp_region_text (by kernel_rfl) (by kernel_rfl) ?_)
      go_wp2
      refine Strict.intro rfl ?_
      go_wp2
      have h9 := ((((((H1.out.bring 2).blkSet 3 (.slice (some ⟨g2, 0, none⟩) d.t tc)).blkSet 4 (.int .i64 (d.t : Int))).bring 2).blkSet 0 (.int .i64 (d.v : Int))).blkSet 1 (.int .i64 (d.t : Int))).blkSet 2 (.bool d.tn)
      have hend := h9.blk
      refine bodyPost_ret (dec_result rfl (b := rb) (x := .int .i64 (d.v : Int)) (y := .int .i64 (d.t : Int)) (z := .bool d.tn) rfl ?_) rfl ⟨rfl, ?_⟩
      · exact hend
      · refine eng_close (mb := mb) (cv := cv) (vv := .slice (some ⟨gv, 0, none⟩) (V + 1) capv) (tv := .slice (some ⟨g2, 0, none⟩) d.t tc) (dv := .slice (some ⟨g, 0, none⟩) D.length dc) ?_
        have h10 := ((h9.bring 8).rowCut (m := d.t) (by omega)).ord 10 [2, 4, 5, 6, 7, 8, 0, 9]
        simp only [engL, List.cons_append, List.nil_append]
        have e1 : (tr.take d.t).length = d.t := by rw [List.length_take]; omega
        have e2 : iv (tr.take d.t) = (iv tr).take (d.t * 1) := by unfold iv; rw [Nat.mul_one, List.map_take]
        rw [e1, e2]
        exact h10.step (by (repeat first | exact Fr.refl _ _ | assumption | apply Fr.n | apply Fr.d | apply Fr.a | refine Fr.s ?_ (.inr (by simp; try omega)) _))
end Go.Proofs.Ytjidldfnlejdhaa
end

section
/- solve: the last decision that can be changed is changed. -/
namespace Go.Proofs.Ytjidldfnlejdhaa
open Go Go.RowKit Go.Proofs.Rg Go.Proofs.Mp Go.Proofs.Hp Go.Proofs.Sv
set_option linter.unusedVariables false
set_option linter.unusedSimpArgs false
/-- the trail behind a turn -/
def turnT (n : Nat) : List Dec → List Int → List Int
  | [], tr => tr
  | d :: D, tr => if d.tn = false ∧ d.v ≤ n then tr.take d.t ++ [(d.v : Int)] else turnT n D (tr.take d.t)
def turnN (n : Nat) : List Dec → Nat → Nat
  | [], m => m
  | d :: D, m => if d.tn = false ∧ d.v ≤ n then d.t else turnN n D d.t
/-- each decision lies within its trail, on a variable that had no value -/
def DOk (V : Nat) : List Dec → List Int → Prop
  | [], _ => True
  | d :: D, tr => d.t < tr.length ∧ (1 ≤ d.v ∧ d.v ≤ V) ∧ ((d.v : Int) ∉ tr.take d.t ∧ -(d.v : Int) ∉ tr.take d.t) ∧ D.length < V ∧ DOk V D (tr.take d.t)
set_option maxHeartbeats 4000000 in
theorem turn_calls {W w : World} {Ps : List Res} {p V : Nat} {CV : List (Value × List Int)} {L : List (Int × (Value × List Nat))} {tr : List Int} {dn : Nat} {D : List Dec} {bad : Bool} (h : Has W w (engR p V CV L tr dn D bad :: Ps)) (ht : TrOk V tr) (hV : V ≤ 65536) (hD : DOk V D tr) {n : Nat} (hn : n ≤ 65536) :
    Calls Try.prog 35 #[.pointer (some ⟨p, 0, none⟩), .int .i64 (n : Int)] w fun e w' => e = .returned (.bool (turnF n D).isSome) ∧ Has W w' (engR p V CV L (turnT n D tr) (turnN n D dn) ((turnF n D).getD []) bad :: Ps) := by
  have H := Lib.hid h
  have HT := Lib.hid ht
  have HD := Lib.hid hD
  clear h ht hD
  go_enter Try.func35, Try.ntmps35
  go_wp2
  go_loopg [5] D.length (fun gg _ wr => ∃ (D' : List Dec) (tr' : List Int) (dn' : Nat), D'.length ≤ gg ∧ Hid (TrOk V tr' ∧ DOk V D' tr') ∧ Hid (turnF n D' = turnF n D ∧ turnT n D' tr' = turnT n D tr ∧ turnN n D' dn' = turnN n D dn) ∧ Hid (Has W wr (engR p V CV L tr' dn' D' bad :: Ps)))
  case atStart => exact ⟨D, tr, dn, Nat.le_refl _, Lib.hid ⟨HT.out, HD.out⟩, Lib.hid ⟨rfl, rfl, rfl⟩, H⟩
  case round =>
    obtain ⟨D', tr', dn', hg, H1, H2, H3⟩ := hrel
    clear HT HD H
    have HT := Lib.hid H1.out.1
    have HD := Lib.hid H1.out.2
    clear H1
    obtain ⟨mb, cv, vv, tv, dv, h⟩ := eng_open H3.out
    simp only [engL, List.cons_append, List.nil_append] at h
    have hb := h.blk
    obtain ⟨da, dc, rfl, hda, _⟩ := owns_form (h.bring 7).row
    have c5 : _ = some _ := heap_eq_cell hb 5
    have cl := lt_of_block hb
    clear h hb hda
    cases D' with
    | nil =>
      have hlen : ([] : List Dec).length = 0 := rfl
      rw [hlen] at c5
      clear hlen
      go_wp2
      go_ret
      refine ⟨?_, ?_⟩
      · rw [← H2.out.1]; rfl
      · rw [← H2.out.1, ← H2.out.2.1, ← H2.out.2.2]; exact H3.out
    | cons d D' =>
      rw [show (d :: D').length = D'.length + 1 from rfl] at c5 hg
      obtain ⟨hd1, hd2, hd3, hd4, hd5⟩ := HD.out
      have hd4' : (d :: D').length ≤ V := hd4
      have HC := Lib.hid (back_calls H3.out HT.out hV hd4' hd1)
      have HDD := Lib.hid (And.intro hd1 (And.intro hd2 (And.intro hd3 (And.intro hd4 hd5))))
      have hdv := hd2.2
      clear hd1 hd2 hd3 hd4 hd5 hd4' H3
      go_wp2_with fail
      refine HC.out.mono ?_
      rintro e w2 ⟨rfl, h2⟩
      have H4 := Lib.hid h2
      clear h2 HC
      by_cases hc : d.tn = false ∧ d.v ≤ n
      · obtain ⟨hc1, hc2⟩ := hc
        have HF := Lib.hid (show turnF n (d :: D') = some (⟨d.v, d.t, true⟩ :: D') from by unfold turnF; rw [if_pos ⟨hc1, hc2⟩])
        have HG := Lib.hid (show turnT n (d :: D') tr' = tr'.take d.t ++ [(d.v : Int)] from by unfold turnT; rw [if_pos ⟨hc1, hc2⟩])
        have HN := Lib.hid (show turnN n (d :: D') dn' = d.t from by unfold turnN; rw [if_pos ⟨hc1, hc2⟩])
        go_wp2_with fail
        refine (decide_calls (H4.out.step (by (repeat first | exact Fr.refl _ _ | assumption | apply Fr.n | apply Fr.d | apply Fr.a | refine Fr.s ?_ (.inr (by simp; try omega)) _))) (HT.out.take d.t) hV (by have := HDD.out.2.2.2.1; omega) (by have := HDD.out.2.1; omega) (by have := HDD.out.2.1; simp; omega) HDD.out.2.2.1 true).mono ?_
        rintro e w3 ⟨rfl, h3⟩
        have H5 := Lib.hid h3
        clear h3 H4
        go_wp2
        go_ret
        refine ⟨?_, ?_⟩
        · rw [← H2.out.1, HF.out]; rfl
        · rw [← H2.out.1, ← H2.out.2.1, ← H2.out.2.2, HF.out, HG.out, HN.out]
          have h5 := H5.out
          have hl : (tr'.take d.t).length = d.t := by have := HDD.out.1; simp; omega
          rw [hl] at h5
          simpa using h5
      · have HF := Lib.hid (show turnF n (d :: D') = turnF n D' from by rw [turnF, if_neg hc])
        have HG := Lib.hid (show turnT n (d :: D') tr' = turnT n D' (tr'.take d.t) from by rw [turnT, if_neg hc])
        have HN := Lib.hid (show turnN n (d :: D') dn' = turnN n D' d.t from by rw [turnN, if_neg hc])
        have hcc : (d.tn = false → ¬ d.v ≤ n) := fun a b => hc ⟨a, b⟩
        clear hc
        obtain ⟨b, hb⟩ : ∃ b, d.tn = b := ⟨_, rfl⟩
        rw [hb] at hcc ⊢
        clear hb
        cases b with
        | true =>
          clear hcc
          go_wp2
          go_roundg (D'.length)
          case measure => omega
          case rel => exact ⟨D', tr'.take d.t, d.t, Nat.le_refl _, Lib.hid ⟨HT.out.take _, HDD.out.2.2.2.2⟩, Lib.hid ⟨by rw [← HF.out, H2.out.1], by rw [← HG.out, H2.out.2.1], by rw [← HN.out, H2.out.2.2]⟩, Lib.hid (H4.out.step (by (repeat first | exact Fr.refl _ _ | assumption | apply Fr.n | apply Fr.d | apply Fr.a | refine Fr.s ?_ (.inr (by simp; try omega)) _)))⟩
        | false =>
          have hvn := hcc rfl
          clear hcc
          go_wp2
          go_roundg (D'.length)
          case measure => omega
          case rel => exact ⟨D', tr'.take d.t, d.t, Nat.le_refl _, Lib.hid ⟨HT.out.take _, HDD.out.2.2.2.2⟩, Lib.hid ⟨by rw [← HF.out, H2.out.1], by rw [← HG.out, H2.out.2.1], by rw [← HN.out, H2.out.2.2]⟩, Lib.hid (H4.out.step (by (repeat first | exact Fr.refl _ _ | assumption | apply Fr.n | apply Fr.d | apply Fr.a | refine Fr.s ?_ (.inr (by simp; try omega)) _)))⟩
end Go.Proofs.Ytjidldfnlejdhaa
end

section
/- The contracts of slices' functions at this dump, out of the shelf, in plain words. -/
namespace Go.Proofs
set_option linter.unusedVariables false
set_option linter.unusedSimpArgs false
open Go.Shelf
def Try.shIndexFunc_ren : Go.Shelf.Ren := ⟨fun | 6 => 96 | n => n, fun | 22 => 51 | 23 => 3 | 25 => 60 | 3 => 3 | 0 => 0 | 4 => 4 | n => n, fun | n => n⟩
theorem Try.shIndexFunc : Go.Proofs.SlLaysH.n6 Try.prog Try.shIndexFunc_ren := {
  mixed := by kernel_rfl
  f6 := ⟨Try.f96.name, by decide, Try.func96.trans (congrArg some (by kernel_rfl))⟩
  t0 := Try.underlying0
  a0 := Try.isAgg0
  z0 := Try.sizeOf0
  v0 := Try.zeroValue0
  t3 := Try.underlying3
  a3 := Try.isAgg3
  z3 := Try.sizeOf3
  v3 := Try.zeroValue3
  t4 := Try.underlying4
  a4 := Try.isAgg4
  z4 := Try.sizeOf4
  v4 := Try.zeroValue4
  t22 := Try.underlying51
  a22 := Try.isAgg51
  z22 := Try.sizeOf51
  v22 := Try.zeroValue51
  a23 := Try.isAgg3
  z23 := Try.sizeOf3
  t25 := Try.underlying60
  a25 := Try.isAgg60
  z25 := Try.sizeOf60
  v25 := Try.zeroValue60 }
def Try.shContainsFunc_ren : Go.Shelf.Ren := ⟨fun | 8 => 38 | 6 => 62 | n => n, fun | 22 => 22 | 23 => 51 | 25 => 63 | 4 => 4 | 3 => 3 | 0 => 0 | n => n, fun | n => n⟩
theorem Try.shContainsFunc : Go.Proofs.SlLaysH.n8 Try.prog Try.shContainsFunc_ren := {
  mixed := by kernel_rfl
  f6 := ⟨Try.f62.name, by decide, Try.func62.trans (congrArg some (by kernel_rfl))⟩
  f8 := ⟨Try.f38.name, by decide, Try.func38.trans (congrArg some (by kernel_rfl))⟩
  t0 := Try.underlying0
  a0 := Try.isAgg0
  z0 := Try.sizeOf0
  v0 := Try.zeroValue0
  t3 := Try.underlying3
  a3 := Try.isAgg3
  z3 := Try.sizeOf3
  v3 := Try.zeroValue3
  t4 := Try.underlying4
  a4 := Try.isAgg4
  z4 := Try.sizeOf4
  v4 := Try.zeroValue4
  t22 := Try.underlying22
  a22 := Try.isAgg22
  z22 := Try.sizeOf22
  v22 := Try.zeroValue22
  a23 := Try.isAgg51
  z23 := Try.sizeOf51
  t25 := Try.underlying63
  a25 := Try.isAgg63
  z25 := Try.sizeOf63
  v25 := Try.zeroValue63 }
def Try.shDeleteFunc_ren : Go.Shelf.Ren := ⟨fun | 10 => 77 | 6 => 96 | n => n, fun | 22 => 51 | 23 => 3 | 25 => 60 | 3 => 3 | 4 => 4 | 0 => 0 | n => n, fun | n => n⟩
theorem Try.shDeleteFunc : Go.Proofs.SlLaysH.n10 Try.prog Try.shDeleteFunc_ren := {
  mixed := by kernel_rfl
  f6 := ⟨Try.f96.name, by decide, Try.func96.trans (congrArg some (by kernel_rfl))⟩
  f10 := ⟨Try.f77.name, by decide, Try.func77.trans (congrArg some (by kernel_rfl))⟩
  t0 := Try.underlying0
  a0 := Try.isAgg0
  z0 := Try.sizeOf0
  v0 := Try.zeroValue0
  t3 := Try.underlying3
  a3 := Try.isAgg3
  z3 := Try.sizeOf3
  v3 := Try.zeroValue3
  t4 := Try.underlying4
  a4 := Try.isAgg4
  z4 := Try.sizeOf4
  v4 := Try.zeroValue4
  t22 := Try.underlying51
  a22 := Try.isAgg51
  z22 := Try.sizeOf51
  v22 := Try.zeroValue51
  a23 := Try.isAgg3
  z23 := Try.sizeOf3
  t25 := Try.underlying60
  a25 := Try.isAgg60
  z25 := Try.sizeOf60
  v25 := Try.zeroValue60 }
def Try.shContains_ren : Go.Shelf.Ren := ⟨fun | 31 => 76 | 29 => 98 | n => n, fun | 22 => 51 | 23 => 3 | 4 => 4 | 3 => 3 | 0 => 0 | n => n, fun | n => n⟩
theorem Try.shContains : Go.Proofs.SlLaysE.n31 Try.prog Try.shContains_ren := {
  mixed := by kernel_rfl
  f29 := ⟨Try.f98.name, by decide, Try.func98.trans (congrArg some (by kernel_rfl))⟩
  f31 := ⟨Try.f76.name, by decide, Try.func76.trans (congrArg some (by kernel_rfl))⟩
  t0 := Try.underlying0
  a0 := Try.isAgg0
  z0 := Try.sizeOf0
  v0 := Try.zeroValue0
  t3 := Try.underlying3
  a3 := Try.isAgg3
  z3 := Try.sizeOf3
  v3 := Try.zeroValue3
  t4 := Try.underlying4
  a4 := Try.isAgg4
  z4 := Try.sizeOf4
  v4 := Try.zeroValue4
  t22 := Try.underlying51
  a22 := Try.isAgg51
  z22 := Try.sizeOf51
  v22 := Try.zeroValue51
  a23 := Try.isAgg3
  z23 := Try.sizeOf3 }
def Try.shCompact_ren : Go.Shelf.Ren := ⟨fun | 43 => 52 | n => n, fun | 22 => 51 | 23 => 3 | 3 => 3 | 4 => 4 | 0 => 0 | n => n, fun | n => n⟩
theorem Try.shCompact : Go.Proofs.SlLaysE.n43 Try.prog Try.shCompact_ren := {
  mixed := by kernel_rfl
  f43 := ⟨Try.f52.name, by decide, Try.func52.trans (congrArg some (by kernel_rfl))⟩
  t0 := Try.underlying0
  a0 := Try.isAgg0
  z0 := Try.sizeOf0
  v0 := Try.zeroValue0
  t3 := Try.underlying3
  a3 := Try.isAgg3
  z3 := Try.sizeOf3
  v3 := Try.zeroValue3
  t4 := Try.underlying4
  a4 := Try.isAgg4
  z4 := Try.sizeOf4
  v4 := Try.zeroValue4
  t22 := Try.underlying51
  a22 := Try.isAgg51
  z22 := Try.sizeOf51
  v22 := Try.zeroValue51
  a23 := Try.isAgg3
  z23 := Try.sizeOf3 }
def Try.shClone_ren : Go.Shelf.Ren := ⟨fun | 41 => 33 | n => n, fun | 22 => 51 | 23 => 3 | 4 => 4 | n => n, fun | n => n⟩
theorem Try.shClone : Go.Proofs.SlLaysE0.n41 Try.prog Try.shClone_ren := {
  mixed := by kernel_rfl
  f41 := ⟨Try.f33.name, by decide, Try.func33.trans (congrArg some (by kernel_rfl))⟩
  t4 := Try.underlying4
  a4 := Try.isAgg4
  z4 := Try.sizeOf4
  v4 := Try.zeroValue4
  t22 := Try.underlying51
  a22 := Try.isAgg51
  z22 := Try.sizeOf51
  v22 := Try.zeroValue51 }
def Try.shClones_ren : Go.Shelf.Ren := ⟨fun | 41 => 58 | n => n, fun | 22 => 22 | 23 => 51 | 4 => 4 | n => n, fun | n => n⟩
theorem Try.shClones : Go.Proofs.SlLaysE0.n41 Try.prog Try.shClones_ren := {
  mixed := by kernel_rfl
  f41 := ⟨Try.f58.name, by decide, Try.func58.trans (congrArg some (by kernel_rfl))⟩
  t4 := Try.underlying4
  a4 := Try.isAgg4
  z4 := Try.sizeOf4
  v4 := Try.zeroValue4
  t22 := Try.underlying22
  a22 := Try.isAgg22
  z22 := Try.sizeOf22
  v22 := Try.zeroValue22 }
def Try.shSort_ren : Go.Shelf.Ren := ⟨fun | 5 => 51 | 8 => 73 | 7 => 72 | 19 => 94 | 20 => 95 | 10 => 85 | 11 => 86 | 12 => 87 | 13 => 88 | 14 => 89 | 15 => 90 | 16 => 91 | 17 => 92 | 18 => 93 | 30 => 100 | 31 => 101 | 32 => 102 | 33 => 103 | 34 => 104 | 35 => 105 | 40 => 106 | n => n, fun | 23 => 51 | 25 => 3 | 3 => 3 | 32 => 92 | 22 => 51 | 0 => 0 | 44 => 71 | 46 => 72 | 4 => 4 | 36 => 116 | 35 => 115 | 41 => 120 | 5 => 5 | 9 => 9 | 53 => 126 | 57 => 130 | 63 => 132 | 64 => 133 | n => n, fun | n => n⟩
theorem Try.shSort : Go.Proofs.SlLaysM.n5 Try.prog Try.shSort_ren := {
  mixed := by kernel_rfl
  f5 := ⟨Try.f51.name, by decide, Try.func51.trans (congrArg some (by kernel_rfl))⟩
  f7 := ⟨Try.f72.name, by decide, Try.func72.trans (congrArg some (by kernel_rfl))⟩
  f8 := Try.func73.trans (congrArg some (by kernel_rfl))
  f10 := ⟨Try.f85.name, by decide, Try.func85.trans (congrArg some (by kernel_rfl))⟩
  f11 := ⟨Try.f86.name, by decide, Try.func86.trans (congrArg some (by kernel_rfl))⟩
  f12 := ⟨Try.f87.name, by decide, Try.func87.trans (congrArg some (by kernel_rfl))⟩
  f13 := ⟨Try.f88.name, by decide, Try.func88.trans (congrArg some (by kernel_rfl))⟩
  f14 := ⟨Try.f89.name, by decide, Try.func89.trans (congrArg some (by kernel_rfl))⟩
  f15 := ⟨Try.f90.name, by decide, Try.func90.trans (congrArg some (by kernel_rfl))⟩
  f16 := ⟨Try.f91.name, by decide, Try.func91.trans (congrArg some (by kernel_rfl))⟩
  f17 := ⟨Try.f92.name, by decide, Try.func92.trans (congrArg some (by kernel_rfl))⟩
  f18 := ⟨Try.f93.name, by decide, Try.func93.trans (congrArg some (by kernel_rfl))⟩
  f19 := Try.func94.trans (congrArg some (by kernel_rfl))
  f20 := Try.func95.trans (congrArg some (by kernel_rfl))
  f30 := ⟨Try.f100.name, by decide, Try.func100.trans (congrArg some (by kernel_rfl))⟩
  f31 := Try.func101.trans (congrArg some (by kernel_rfl))
  f32 := Try.func102.trans (congrArg some (by kernel_rfl))
  f33 := ⟨Try.f103.name, by decide, Try.func103.trans (congrArg some (by kernel_rfl))⟩
  f34 := ⟨Try.f104.name, by decide, Try.func104.trans (congrArg some (by kernel_rfl))⟩
  f35 := ⟨Try.f105.name, by decide, Try.func105.trans (congrArg some (by kernel_rfl))⟩
  f40 := ⟨Try.f106.name, by decide, Try.func106.trans (congrArg some (by kernel_rfl))⟩
  t0 := Try.underlying0
  a0 := Try.isAgg0
  z0 := Try.sizeOf0
  v0 := Try.zeroValue0
  t3 := Try.underlying3
  a3 := Try.isAgg3
  z3 := Try.sizeOf3
  v3 := Try.zeroValue3
  t4 := Try.underlying4
  a4 := Try.isAgg4
  z4 := Try.sizeOf4
  v4 := Try.zeroValue4
  t5 := Try.underlying5
  a5 := Try.isAgg5
  z5 := Try.sizeOf5
  v5 := Try.zeroValue5
  t9 := Try.underlying9
  a9 := Try.isAgg9
  z9 := Try.sizeOf9
  v9 := Try.zeroValue9
  t22 := Try.underlying51
  a22 := Try.isAgg51
  z22 := Try.sizeOf51
  v22 := Try.zeroValue51
  t23 := Try.underlying51
  a23 := Try.isAgg51
  z23 := Try.sizeOf51
  v23 := Try.zeroValue51
  t25 := Try.underlying3
  a25 := Try.isAgg3
  z25 := Try.sizeOf3
  v25 := Try.zeroValue3
  t32 := Try.underlying92
  a32 := Try.isAgg92
  z32 := Try.sizeOf92
  v32 := Try.zeroValue92
  t35 := Try.underlying115
  a35 := Try.isAgg115
  z35 := Try.sizeOf115
  v35 := Try.zeroValue115
  t36 := Try.underlying116
  a36 := Try.isAgg116
  z36 := Try.sizeOf116
  v36 := Try.zeroValue116
  t41 := Try.underlying120
  a41 := Try.isAgg120
  z41 := Try.sizeOf120
  v41 := Try.zeroValue120
  t44 := Try.underlying71
  a44 := Try.isAgg71
  z44 := Try.sizeOf71
  v44 := Try.zeroValue71
  t46 := Try.underlying72
  a46 := Try.isAgg72
  z46 := Try.sizeOf72
  v46 := Try.zeroValue72
  t53 := Try.underlying126
  a53 := Try.isAgg126
  z53 := Try.sizeOf126
  v53 := Try.zeroValue126
  t57 := Try.underlying130
  a57 := Try.isAgg130
  z57 := Try.sizeOf130
  v57 := Try.zeroValue130
  t63 := Try.underlying132
  a63 := Try.isAgg132
  z63 := Try.sizeOf132
  v63 := Try.zeroValue132
  t64 := Try.underlying133
  a64 := Try.isAgg133
  z64 := Try.sizeOf133
  v64 := Try.zeroValue133 }
end Go.Proofs
end
