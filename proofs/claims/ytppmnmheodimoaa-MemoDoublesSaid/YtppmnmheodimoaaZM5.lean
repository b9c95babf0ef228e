/- Own texts of this claim, part 6: no condition. -/
import Derived.Test.YtppmnmheodimoaaZM4
set_option linter.unusedVariables false
set_option linter.unusedSimpArgs false
section
/- Evolving squares: hashlife on trees. Nothing of a program. -/
namespace Go.Proofs.Ev
open Go.Proofs.Qs
set_option linter.unusedVariables false
set_option linter.unusedSimpArgs false
abbrev Fld := Int → Int → Int
def p2 (n : Nat) : Int := ((2 ^ n : Nat) : Int)
theorem p2_succ (n : Nat) : p2 (n + 1) = p2 n + p2 n := by unfold p2; rw [Nat.pow_succ]; omega
theorem p2_pos (n : Nat) : 0 < p2 n := by unfold p2; have := Nat.pow_pos (n := n) (show 0 < 2 by omega); omega
theorem p2_zero : p2 0 = 1 := rfl
/-- the tree of height n of a field, from a corner on -/
def mk : Nat → Fld → Int → Int → Tr
  | 0, F, x, y => .leaf (F x y)
  | n + 1, F, x, y => .node (mk n F x y) (mk n F (x + p2 n) y) (mk n F x (y + p2 n)) (mk n F (x + p2 n) (y + p2 n))
/-- is a tree whole, of a height? -/
def Full : Nat → Tr → Prop
  | 0, .leaf _ => True
  | n + 1, .node a b c d => Full n a ∧ Full n b ∧ Full n c ∧ Full n d
  | _, _ => False
def cell : Nat → Tr → Fld
  | 0, .leaf v => fun _ _ => v
  | n + 1, .node a b c d => fun x y => if y < p2 n then (if x < p2 n then cell n a x y else cell n b (x - p2 n) y) else (if x < p2 n then cell n c x (y - p2 n) else cell n d (x - p2 n) (y - p2 n))
  | _, _ => fun _ _ => 0
theorem mk_full : ∀ (n : Nat) (F : Fld) (x y : Int), Full n (mk n F x y)
  | 0, F, x, y => trivial
  | n + 1, F, x, y => ⟨mk_full n _ _ _, mk_full n _ _ _, mk_full n _ _ _, mk_full n _ _ _⟩
theorem mk_congr : ∀ (n : Nat) {F G : Fld} {x y u v : Int}, (∀ i j, 0 ≤ i → i < p2 n → 0 ≤ j → j < p2 n → F (x + i) (y + j) = G (u + i) (v + j)) → mk n F x y = mk n G u v
  | 0, F, G, x, y, u, v, h => by
    have := h 0 0 (by omega) (by rw [p2_zero]; omega) (by omega) (by rw [p2_zero]; omega)
    simp only [Int.add_zero] at this
    show Tr.leaf _ = Tr.leaf _
    rw [this]
  | n + 1, F, G, x, y, u, v, h => by
    have hp := p2_succ n
    have hq := p2_pos n
    show Tr.node _ _ _ _ = Tr.node _ _ _ _
    rw [mk_congr n (F := F) (G := G) (x := x) (y := y) (u := u) (v := v) fun i j a b c d => h i j a (by omega) c (by omega),
      mk_congr n (F := F) (G := G) (x := x + p2 n) (y := y) (u := u + p2 n) (v := v) fun i j a b c d => by rw [Int.add_assoc, Int.add_assoc]; exact h _ j (by omega) (by omega) c (by omega),
      mk_congr n (F := F) (G := G) (x := x) (y := y + p2 n) (u := u) (v := v + p2 n) fun i j a b c d => by rw [Int.add_assoc y, Int.add_assoc v]; exact h i _ a (by omega) (by omega) (by omega),
      mk_congr n (F := F) (G := G) (x := x + p2 n) (y := y + p2 n) (u := u + p2 n) (v := v + p2 n) fun i j a b c d => by rw [Int.add_assoc x, Int.add_assoc u, Int.add_assoc y, Int.add_assoc v]; exact h _ _ (by omega) (by omega) (by omega) (by omega)]
theorem cell_mk : ∀ (n : Nat) {F : Fld} {x y i j : Int}, 0 ≤ i → i < p2 n → 0 ≤ j → j < p2 n → cell n (mk n F x y) i j = F (x + i) (y + j)
  | 0, F, x, y, i, j, a, b, c, d => by
    rw [p2_zero] at b d
    obtain rfl : i = 0 := by omega
    obtain rfl : j = 0 := by omega
    simp [mk, cell]
  | n + 1, F, x, y, i, j, a, b, c, d => by
    have hp := p2_succ n
    show (if j < p2 n then (if i < p2 n then _ else _) else _) = _
    split
    · split
      · exact cell_mk n a (by omega) c (by omega)
      · rw [cell_mk n (by omega) (by omega) c (by omega)]; congr 1; omega
    · split
      · rw [cell_mk n a (by omega) (by omega) (by omega)]; congr 1; omega
      · rw [cell_mk n (by omega) (by omega) (by omega) (by omega)]; congr 1 <;> omega
theorem mk_cell : ∀ (n : Nat) {t : Tr}, Full n t → mk n (cell n t) 0 0 = t
  | 0, .leaf v, _ => rfl
  | 0, .node _ _ _ _, h => h.elim
  | n + 1, .leaf _, h => h.elim
  | n + 1, .node a b c d, h => by
    obtain ⟨ha, hb, hc, hd⟩ := h
    have hq := p2_pos n
    show Tr.node _ _ _ _ = _
    have k1 : mk n (cell (n + 1) (.node a b c d)) 0 0 = mk n (cell n a) 0 0 := mk_congr n fun i j h1 h2 h3 h4 => by
      show (if 0 + j < p2 n then (if 0 + i < p2 n then _ else _) else _) = _
      rw [if_pos (by omega), if_pos (by omega)]
    have k2 : mk n (cell (n + 1) (.node a b c d)) (0 + p2 n) 0 = mk n (cell n b) 0 0 := mk_congr n fun i j h1 h2 h3 h4 => by
      show (if 0 + j < p2 n then (if 0 + p2 n + i < p2 n then _ else _) else _) = _
      rw [if_pos (by omega), if_neg (by omega)]; congr 1; omega
    have k3 : mk n (cell (n + 1) (.node a b c d)) 0 (0 + p2 n) = mk n (cell n c) 0 0 := mk_congr n fun i j h1 h2 h3 h4 => by
      show (if 0 + p2 n + j < p2 n then _ else (if 0 + i < p2 n then _ else _)) = _
      rw [if_neg (by omega), if_pos (by omega)]; congr 1; omega
    have k4 : mk n (cell (n + 1) (.node a b c d)) (0 + p2 n) (0 + p2 n) = mk n (cell n d) 0 0 := mk_congr n fun i j h1 h2 h3 h4 => by
      show (if 0 + p2 n + j < p2 n then _ else (if 0 + p2 n + i < p2 n then _ else _)) = _
      rw [if_neg (by omega), if_neg (by omega)]; congr 1 <;> omega
    rw [k1, k2, k3, k4, mk_cell n ha, mk_cell n hb, mk_cell n hc, mk_cell n hd]
theorem full_ht : ∀ (n : Nat) {t : Tr}, Full n t → t.ht = n
  | 0, .leaf v, _ => rfl
  | 0, .node _ _ _ _, h => h.elim
  | n + 1, .leaf _, h => h.elim
  | n + 1, .node a b c d, h => by show a.ht + 1 = n + 1; rw [full_ht n h.1]
/-! ### Generations -/
/-- a rule whose cells' new states come from states at most r away -/
def Local (r : Int) (g : Fld → Fld) : Prop := ∀ {F H : Fld} {x y u v : Int}, (∀ i j, -r ≤ i → i ≤ r → -r ≤ j → j ≤ r → F (x + i) (y + j) = H (u + i) (v + j)) → g F x y = g H u v
def it (g : Fld → Fld) : Nat → Fld → Fld
  | 0, F => F
  | n + 1, F => g (it g n F)
theorem it_add (g : Fld → Fld) (a b : Nat) (F : Fld) : it g (a + b) F = it g a (it g b F) := by
  induction a with
  | zero => rw [Nat.zero_add]; rfl
  | succ a ih => rw [Nat.add_right_comm, it, ih]; rfl
/-- fields that agree on a square evolve alike, but for a margin -/
theorem it_local {r : Int} {g : Fld → Fld} (hg : Local r g) {F H : Fld} {x y u v L : Int} (h : ∀ i j, 0 ≤ i → i < L → 0 ≤ j → j < L → F (x + i) (y + j) = H (u + i) (v + j)) : ∀ (m : Nat) {i j : Int}, r * m ≤ i → i < L - r * m → r * m ≤ j → j < L - r * m → it g m F (x + i) (y + j) = it g m H (u + i) (v + j)
  | 0, i, j, a, b, c, d => by
    simp only [Int.natCast_zero, Int.mul_zero, Int.sub_zero] at a b c d
    exact h i j a b c d
  | m + 1, i, j, a, b, c, d => by
    have e : r * ((m + 1 : Nat) : Int) = r * m + r := by rw [Int.natCast_add, Int.mul_add]; simp
    rw [e] at a b c d
    refine hg fun p q a1 a2 a3 a4 => ?_
    rw [Int.add_assoc, Int.add_assoc, Int.add_assoc, Int.add_assoc]
    exact it_local hg h m (by omega) (by omega) (by omega) (by omega)
/-- the centre of a tree after 2 to the power k generations -/
def stp (g : Fld → Fld) (n k : Nat) (t : Tr) : Tr := mk (n - 1) (it g (2 ^ k) (cell n t)) (p2 (n - 2)) (p2 (n - 2))
theorem p2_le {m n : Nat} (h : m ≤ n) : p2 m ≤ p2 n := by unfold p2; exact Int.ofNat_le.2 (Nat.pow_le_pow_right (by omega) h)
theorem stp_mk {r : Int} {g : Fld → Fld} (hg : Local r g) {n k : Nat} (hn : 2 ≤ n) (hr : r * p2 k ≤ p2 (n - 2)) (F : Fld) (x y : Int) :
    stp g n k (mk n F x y) = mk (n - 1) (it g (2 ^ k) F) (x + p2 (n - 2)) (y + p2 (n - 2)) := by
  obtain ⟨n, rfl⟩ : ∃ m, n = m + 2 := ⟨n - 2, by omega⟩
  simp only [Nat.add_sub_cancel] at hr ⊢
  unfold stp
  have e1 := p2_succ n
  have e2 := p2_succ (n + 1)
  refine mk_congr _ fun i j a b c d => ?_
  rw [show n + 2 - 1 = n + 1 from rfl] at b d
  rw [Int.add_assoc x, Int.add_assoc y]
  have := it_local hg (F := cell (n + 2) (mk (n + 2) F x y)) (H := F) (x := 0) (y := 0) (u := x) (v := y) (L := p2 (n + 2)) (fun i j a b c d => by rw [Int.zero_add, Int.zero_add]; exact cell_mk _ a b c d) (2 ^ k) (i := p2 n + i) (j := p2 n + j)
    (by show r * p2 k ≤ _; omega) (by show _ < _ - r * p2 k; rw [show n + 2 = n + 1 + 1 from rfl, e2]; omega) (by show r * p2 k ≤ _; omega) (by show _ < _ - r * p2 k; rw [show n + 2 = n + 1 + 1 from rfl, e2]; omega)
  rw [Int.zero_add, Int.zero_add] at this
  exact this
/-! ### Parts of a tree -/
def Tr.q : Tr → Nat → Tr
  | .node a _ _ _, 0 => a
  | .node _ b _ _, 1 => b
  | .node _ _ c _, 2 => c
  | .node _ _ _ d, _ + 3 => d
  | .leaf v, _ => .leaf v
/-- the sixteen grandkids, by row and column -/
def g16 (t : Tr) (y x : Nat) : Tr := Tr.q (Tr.q t (2 * (y / 2) + x / 2)) (2 * (y % 2) + x % 2)
/-- four trees of a table, the first of which stands in a row and a column -/
def four4 (f : Nat → Nat → Tr) (y x : Nat) : Tr := .node (f y x) (f y (x + 1)) (f (y + 1) x) (f (y + 1) (x + 1))
def ctr (t : Tr) : Tr := .node (Tr.q (Tr.q t 0) 3) (Tr.q (Tr.q t 1) 2) (Tr.q (Tr.q t 2) 1) (Tr.q (Tr.q t 3) 0)
theorem g16_mk (n : Nat) (F : Fld) (x y : Int) {i j : Nat} (hi : i < 4) (hj : j < 4) : g16 (mk (n + 2) F x y) i j = mk n F (x + j * p2 n) (y + i * p2 n) := by
  have e := p2_succ n
  have key : ∀ (a b c d : Int), a = c → b = d → mk n F a b = mk n F c d := by rintro a b c d rfl rfl; rfl
  match i, hi, j, hj with
  | 0, _, 0, _ | 0, _, 1, _ | 0, _, 2, _ | 0, _, 3, _ | 1, _, 0, _ | 1, _, 1, _ | 1, _, 2, _ | 1, _, 3, _ | 2, _, 0, _ | 2, _, 1, _ | 2, _, 2, _ | 2, _, 3, _ | 3, _, 0, _ | 3, _, 1, _ | 3, _, 2, _ | 3, _, 3, _ =>
    refine key _ _ _ _ ?_ ?_ <;> (try simp only [e]) <;> (try simp) <;> (try omega)
theorem four_mk {n : Nat} {F : Fld} {f : Nat → Nat → Tr} {a b : Int} {i j : Nat} (h : ∀ u v, u ≤ 1 → v ≤ 1 → f (i + u) (j + v) = mk n F (a + v * p2 n) (b + u * p2 n)) : four4 f i j = mk (n + 1) F a b := by
  have h00 := h 0 0 (by omega) (by omega)
  have h01 := h 0 1 (by omega) (by omega)
  have h10 := h 1 0 (by omega) (by omega)
  have h11 := h 1 1 (by omega) (by omega)
  simp only [Nat.add_zero, Int.natCast_zero, Int.zero_mul, Int.add_zero, Int.natCast_one, Int.one_mul] at h00 h01 h10 h11
  unfold four4
  rw [h00, h01, h10, h11]; rfl
theorem ctr_mk (n : Nat) (F : Fld) (x y : Int) : ctr (mk (n + 2) F x y) = mk (n + 1) F (x + p2 n) (y + p2 n) := by
  have e := p2_succ n
  have key : ∀ (a b c d : Int), a = c → b = d → mk n F a b = mk n F c d := by rintro a b c d rfl rfl; rfl
  show Tr.node (mk n F _ _) (mk n F _ _) (mk n F _ _) (mk n F _ _) = Tr.node (mk n F _ _) (mk n F _ _) (mk n F _ _) (mk n F _ _)
  congr 1 <;> refine key _ _ _ _ ?_ ?_ <;> omega
/-- a nine-part of a tree, and what it leads to: after half of the generations, or its centre -/
def part9 (t : Tr) : Nat → Nat → Tr := four4 (g16 t)
def inner9 (g : Fld → Fld) (n k : Nat) (two : Bool) (t : Tr) (i j : Nat) : Tr := if two then stp g (n - 1) (k - 1) (part9 t i j) else ctr (part9 t i j)
def out4 (g : Fld → Fld) (n k : Nat) (two : Bool) (t : Tr) : Nat → Nat → Tr := four4 (inner9 g n k two t)
def res4 (g : Fld → Fld) (n k : Nat) (two : Bool) (t : Tr) (i j : Nat) : Tr := stp g (n - 1) (if two then k - 1 else k) (out4 g n k two t i j)
/-- HASHLIFE: the four results are the quadrants of the result -/
theorem hash {r : Int} {g : Fld → Fld} (hg : Local r g) {n k : Nat} {two : Bool} {t : Tr} (hn : 3 ≤ n) (ht : Full n t) (h1 : two = true → 1 ≤ k ∧ r * p2 (k - 1) ≤ p2 (n - 3)) (h2 : two = false → r * p2 k ≤ p2 (n - 3)) :
    four4 (res4 g n k two t) 0 0 = stp g n k t := by
  obtain ⟨n, rfl⟩ : ∃ m, n = m + 3 := ⟨n - 3, by omega⟩
  simp only [Nat.add_sub_cancel] at h1 h2
  have e0 := p2_succ n
  have e1 := p2_succ (n + 1)
  obtain ⟨F, rfl⟩ : ∃ F, t = mk (n + 3) F 0 0 := ⟨_, (mk_cell _ ht).symm⟩
  have hp : ∀ i j, i < 3 → j < 3 → part9 (mk (n + 3) F 0 0) i j = mk (n + 2) F (j * p2 (n + 1)) (i * p2 (n + 1)) := by
    intro i j hi hj
    refine four_mk fun u v hu hv => ?_
    rw [g16_mk (n + 1) F 0 0 (by omega) (by omega), Int.zero_add, Int.zero_add, Int.natCast_add, Int.natCast_add, Int.add_mul, Int.add_mul]
  cases two with
  | true =>
    obtain ⟨hk, hr⟩ := h1 rfl
    have hin : ∀ i j, i < 3 → j < 3 → inner9 g (n + 3) k true (mk (n + 3) F 0 0) i j = mk (n + 1) (it g (2 ^ (k - 1)) F) (j * p2 (n + 1) + p2 n) (i * p2 (n + 1) + p2 n) := by
      intro i j hi hj
      show stp g (n + 2) (k - 1) _ = _
      rw [hp i j hi hj, stp_mk hg (by omega) (by exact hr)]; rfl
    have hout : ∀ i j, i < 2 → j < 2 → out4 g (n + 3) k true (mk (n + 3) F 0 0) i j = mk (n + 2) (it g (2 ^ (k - 1)) F) (j * p2 (n + 1) + p2 n) (i * p2 (n + 1) + p2 n) := by
      intro i j hi hj
      refine four_mk fun u v hu hv => ?_
      rw [hin _ _ (by omega) (by omega), Int.natCast_add, Int.natCast_add, Int.add_mul, Int.add_mul]
      congr 1 <;> omega
    have hres : ∀ i j, i < 2 → j < 2 → res4 g (n + 3) k true (mk (n + 3) F 0 0) i j = mk (n + 1) (it g (2 ^ (k - 1)) (it g (2 ^ (k - 1)) F)) (p2 (n + 1) + j * p2 (n + 1)) (p2 (n + 1) + i * p2 (n + 1)) := by
      intro i j hi hj
      show stp g (n + 2) (k - 1) _ = _
      rw [hout i j hi hj, stp_mk hg (by omega) (by exact hr)]
      show mk (n + 1) _ (_ + p2 n) (_ + p2 n) = _
      congr 1 <;> omega
    have e : (2 : Nat) ^ k = 2 ^ (k - 1) + 2 ^ (k - 1) := by
      obtain ⟨m, rfl⟩ : ∃ m, k = m + 1 := ⟨k - 1, by omega⟩
      rw [Nat.pow_succ, Nat.add_sub_cancel]; omega
    have hk2 : r * p2 k ≤ p2 (n + 3 - 2) := by
      have h3 : p2 k = p2 (k - 1) + p2 (k - 1) := by unfold p2; rw [e]; omega
      rw [h3, Int.mul_add]
      show _ ≤ p2 (n + 1)
      omega
    rw [stp_mk hg (by omega) hk2, e, it_add]
    refine (four_mk (n := n + 1) fun u v hu hv => ?_)
    rw [Nat.zero_add, Nat.zero_add, hres u v (by omega) (by omega)]
    show _ = mk (n + 1) _ (0 + p2 (n + 1) + _) (0 + p2 (n + 1) + _)
    rw [Int.zero_add]
  | false =>
    have hr := h2 rfl
    have hin : ∀ i j, i < 3 → j < 3 → inner9 g (n + 3) k false (mk (n + 3) F 0 0) i j = mk (n + 1) F (j * p2 (n + 1) + p2 n) (i * p2 (n + 1) + p2 n) := by
      intro i j hi hj
      show ctr _ = _
      rw [hp i j hi hj, ctr_mk]
    have hout : ∀ i j, i < 2 → j < 2 → out4 g (n + 3) k false (mk (n + 3) F 0 0) i j = mk (n + 2) F (j * p2 (n + 1) + p2 n) (i * p2 (n + 1) + p2 n) := by
      intro i j hi hj
      refine four_mk fun u v hu hv => ?_
      rw [hin _ _ (by omega) (by omega), Int.natCast_add, Int.natCast_add, Int.add_mul, Int.add_mul]
      congr 1 <;> omega
    have hres : ∀ i j, i < 2 → j < 2 → res4 g (n + 3) k false (mk (n + 3) F 0 0) i j = mk (n + 1) (it g (2 ^ k) F) (p2 (n + 1) + j * p2 (n + 1)) (p2 (n + 1) + i * p2 (n + 1)) := by
      intro i j hi hj
      show stp g (n + 2) k _ = _
      rw [hout i j hi hj, stp_mk hg (by omega) (by exact hr)]
      show mk (n + 1) _ (_ + p2 n) (_ + p2 n) = _
      congr 1 <;> omega
    have hk2 : r * p2 k ≤ p2 (n + 3 - 2) := by
      show _ ≤ p2 (n + 1)
      have := p2_pos n
      omega
    rw [stp_mk hg (by omega) hk2]
    refine (four_mk (n := n + 1) fun u v hu hv => ?_)
    rw [Nat.zero_add, Nat.zero_add, hres u v (by omega) (by omega)]
    show _ = mk (n + 1) _ (0 + p2 (n + 1) + _) (0 + p2 (n + 1) + _)
    rw [Int.zero_add]
theorem stp_full (g : Fld → Fld) (n k : Nat) (t : Tr) : Full (n - 1) (stp g n k t) := mk_full _ _ _ _
end Go.Proofs.Ev
end

section
/- Numbers of a store as trees: joining with room, what a step adds. Nothing of a program. -/
namespace Go.Proofs.Qs
open Go.Proofs.Ev
set_option linter.unusedVariables false
set_option linter.unusedSimpArgs false
/-- the leaves lie below a number of states -/
def Tr.ok (s : Int) : Tr → Prop
  | .leaf v => 0 ≤ v ∧ v < s
  | .node a b c d => a.ok s ∧ b.ok s ∧ c.ok s ∧ d.ok s
/-- a number stands for a whole tree of a height -/
def Is (s : Int) (ns : List K4) (n : Nat) (id : Int) (t : Tr) : Prop := Kn s ns id ∧ tr s ns id = t ∧ Full n t ∧ t.ok s
theorem Is.kn {s : Int} {ns : List K4} {n : Nat} {id : Int} {t : Tr} (h : Is s ns n id t) : Kn s ns id := h.1
theorem Is.grow {s : Int} {ns ms : List K4} {n : Nat} {id : Int} {t : Tr} (h : Is s ns n id t) (hp : ns <+: ms) : Is s ms n id t := by
  obtain ⟨xs, rfl⟩ := hp
  obtain ⟨hk, ht, hf⟩ := h
  refine ⟨⟨hk.1, by have := hk.2; simp; omega⟩, ?_, hf⟩
  rw [tr_app hk.2, ht]
theorem Is.lvl {s : Int} {ns : List K4} (hg : GoodQ s ns) {n : Nat} {id : Int} {t : Tr} (h : Is s ns n id t) : lvl s (levs s ns) id = n := by
  obtain ⟨hk, ht, hf, _⟩ := h
  rw [lvl_ht hg ns.length (by have := hk.2; omega) hk, ht, full_ht n hf]
theorem Is.inj {s : Int} {ns : List K4} (hg : GoodQ s ns) {n m : Nat} {x y : Int} {t : Tr} (h : Is s ns n x t) (h' : Is s ns m y t) : x = y :=
  tr_inj hg ns.length (by have := h.1.2; omega) h.1 h'.1 (h.2.1.trans h'.2.1.symm)
theorem good_full {s : Int} {ns : List K4} (h : GoodQ s ns) : ∀ (m : Nat) {x : Int}, x < s + m → Kn s ns x → Full (tr s ns x).ht (tr s ns x) ∧ (tr s ns x).ok s
  | 0, x, hx, kx => by rw [tr_leaf (by omega)]; exact ⟨trivial, kx.1, by omega⟩
  | m + 1, x, hx, kx => by
    rcases kx.cases with ⟨h0, hxs⟩ | ⟨i, k, rfl, hk⟩
    · rw [tr_leaf hxs]; exact ⟨trivial, h0, hxs⟩
    · obtain ⟨ka, kb, kc, kd⟩ := good_kids h hk
      obtain ⟨_, _, _, lb, lc, ld⟩ := good_lvl h hk
      have hi := (List.getElem?_eq_some_iff.1 hk).1
      have na : Kn s ns k.a := ⟨ka.1, by omega⟩
      have nb : Kn s ns k.b := ⟨kb.1, by omega⟩
      have nc : Kn s ns k.c := ⟨kc.1, by omega⟩
      have nd : Kn s ns k.d := ⟨kd.1, by omega⟩
      have fa := good_full h m (x := k.a) (by omega) na
      have fb := good_full h m (x := k.b) (by omega) nb
      have fc := good_full h m (x := k.c) (by omega) nc
      have fd := good_full h m (x := k.d) (by omega) nd
      rw [lvl_ht h ns.length (by have := nb.2; omega) nb, lvl_ht h ns.length (by have := na.2; omega) na] at lb
      rw [lvl_ht h ns.length (by have := nc.2; omega) nc, lvl_ht h ns.length (by have := na.2; omega) na] at lc
      rw [lvl_ht h ns.length (by have := nd.2; omega) nd, lvl_ht h ns.length (by have := na.2; omega) na] at ld
      rw [tr_node h hk]
      refine ⟨⟨fa.1, ?_, ?_, ?_⟩, fa.2, fb.2, fc.2, fd.2⟩
      · rw [show (tr s ns k.a).ht = (tr s ns k.b).ht by omega]; exact fb.1
      · rw [show (tr s ns k.a).ht = (tr s ns k.c).ht by omega]; exact fc.1
      · rw [show (tr s ns k.a).ht = (tr s ns k.d).ht by omega]; exact fd.1
/-- a known number of a level -/
theorem Is.of_lvl {s : Int} {ns : List K4} (hg : GoodQ s ns) {id : Int} {n : Nat} (h : Go.Proofs.Qs.lvl s (levs s ns) id = n) : Is s ns n id (tr s ns id) := by
  have hk : Kn s ns id := (kn_lvl hg id).1 (by omega)
  have hf := good_full hg ns.length (x := id) (by have := hk.2; omega) hk
  rw [lvl_ht hg ns.length (by have := hk.2; omega) hk] at h
  refine ⟨hk, rfl, ?_, hf.2⟩
  rw [show n = (tr s ns id).ht by omega]
  exact hf.1
theorem Is.leaf {s : Int} {ns : List K4} {v : Int} (h : 0 ≤ v) (h' : v < s) : Is s ns 0 v (.leaf v) := ⟨⟨h, by omega⟩, tr_leaf h', trivial, h, h'⟩
theorem Is.zero {s : Int} {ns : List K4} (hg : GoodQ s ns) {v : Int} {t : Tr} (h : Is s ns 0 v t) : 0 ≤ v ∧ v < s ∧ t = .leaf v := by
  obtain ⟨hk, ht, hf, hok⟩ := h
  rcases hk.cases with ⟨h0, h1⟩ | ⟨i, k, rfl, hi⟩
  · exact ⟨h0, h1, by rw [← ht, tr_leaf h1]⟩
  · rw [tr_node hg hi] at ht
    subst ht
    exact hf.elim
/-- the quadrants of a number's tree -/
theorem Is.kids {s : Int} {ns : List K4} (hg : GoodQ s ns) {n : Nat} {id : Int} {t : Tr} (h : Is s ns (n + 1) id t) :
    ∃ i k, id = s + (i : Nat) ∧ ns[i]? = some k ∧ Is s ns n k.a (Tr.q t 0) ∧ Is s ns n k.b (Tr.q t 1) ∧ Is s ns n k.c (Tr.q t 2) ∧ Is s ns n k.d (Tr.q t 3) ∧ t = .node (Tr.q t 0) (Tr.q t 1) (Tr.q t 2) (Tr.q t 3) := by
  obtain ⟨hk, ht, hf, hok⟩ := h
  rcases hk.cases with ⟨h0, h1⟩ | ⟨i, k, rfl, hi⟩
  · rw [tr_leaf h1] at ht
    subst ht
    exact hf.elim
  · obtain ⟨ka, kb, kc, kd⟩ := good_kids hg hi
    have hl := (List.getElem?_eq_some_iff.1 hi).1
    rw [tr_node hg hi] at ht
    subst ht
    exact ⟨i, k, rfl, hi, ⟨⟨ka.1, by omega⟩, rfl, hf.1, hok.1⟩, ⟨⟨kb.1, by omega⟩, rfl, hf.2.1, hok.2.1⟩, ⟨⟨kc.1, by omega⟩, rfl, hf.2.2.1, hok.2.2.1⟩, ⟨⟨kd.1, by omega⟩, rfl, hf.2.2.2, hok.2.2.2⟩, rfl⟩
theorem Is.fits {s : Int} {ns : List K4} (hg : GoodQ s ns) {n : Nat} (hn : n < 256) {a b c d : Int} {ta tb tc td : Tr} (ha : Is s ns n a ta) (hb : Is s ns n b tb) (hc : Is s ns n c tc) (hd : Is s ns n d td) : Fits s ns ⟨a, b, c, d⟩ := by
  have la := ha.lvl hg
  have lb := hb.lvl hg
  have lc := hc.lvl hg
  have ld := hd.lvl hg
  unfold Fits
  simp only
  rw [la, lb, lc, ld]
  omega
/-! ### Joining with room -/
/-- is there room for the trees of a list? -/
def room (s : Int) (ns : List K4) (L : List Tr) : Prop := ns.length + (L.filter fun t => decide (t ∉ trs s ns)).length ≤ 90000
theorem room.len {s : Int} {ns : List K4} {L : List Tr} (h : room s ns L) : ns.length ≤ 90000 := by unfold room at h; omega
theorem room.of_len {s : Int} {ns : List K4} {L : List Tr} (h : ns.length + L.length ≤ 90000) : room s ns L := by
  have := List.length_filter_le (fun t => decide (t ∉ trs s ns)) L
  unfold room; omega
theorem trs_mem {s : Int} {ns : List K4} (hg : GoodQ s ns) {i : Nat} {k : K4} (hk : ns[i]? = some k) : (trs s ns)[i]? = some (.node (tr s ns k.a) (tr s ns k.b) (tr s ns k.c) (tr s ns k.d)) := by
  have h := tr_node hg hk
  have hi := (List.getElem?_eq_some_iff.1 hk).1
  unfold tr tget at h
  rw [if_neg (by omega), show (s + (i : Int) - s).toNat = i by omega, List.getD_eq_getElem?_getD, List.getElem?_eq_getElem (by rw [trs_length]; exact hi)] at h
  rw [List.getElem?_eq_getElem (by rw [trs_length]; exact hi)]
  exact congrArg some h
theorem filter_drop {α : Type} [DecidableEq α] {l m : List α} {x : α} (hx : x ∈ l) (hm : x ∉ m) : (l.filter fun t => decide (t ∉ m ++ [x])).length + 1 ≤ (l.filter fun t => decide (t ∉ m)).length := by
  have hle : ∀ l : List α, (l.filter fun t => decide (t ∉ m ++ [x])).length ≤ (l.filter fun t => decide (t ∉ m)).length := by
    intro l
    induction l with
    | nil => simp
    | cons y l ih =>
      simp only [List.filter_cons]
      by_cases h1 : y ∉ m ++ [x]
      · have h2 : y ∉ m := fun h => h1 (by simp [h])
        simp [h1, h2] at ih ⊢
        exact ih
      · have : decide (y ∉ m ++ [x]) = false := by simpa using h1
        rw [this]
        simp only [Bool.false_eq_true, if_false]
        split
        · simp only [List.length_cons]; omega
        · exact ih
  induction l with
  | nil => cases hx
  | cons y l ih =>
    simp only [List.filter_cons]
    by_cases hy : y = x
    · subst hy
      have h1 : decide (y ∉ m ++ [y]) = false := by simp
      have h2 : decide (y ∉ m) = true := by simpa using hm
      rw [h1, h2]
      simp only [Bool.false_eq_true, if_false, if_true, List.length_cons]
      have := hle l
      omega
    · have hx' : x ∈ l := by
        rw [List.mem_cons] at hx
        rcases hx with h | h
        · exact absurd h.symm hy
        · exact h
      have := ih hx'
      by_cases h1 : y ∉ m
      · have h2 : decide (y ∉ m ++ [x]) = true := by simp [h1, hy]
        have h3 : decide (y ∉ m) = true := by simpa using h1
        rw [h2, h3]
        simp only [if_true, List.length_cons]
        omega
      · have h2 : decide (y ∉ m ++ [x]) = false := by simp at h1; simp [h1]
        have h3 : decide (y ∉ m) = false := by simpa using h1
        rw [h2, h3]
        simpa using this
theorem join_room {s : Int} {ns : List K4} (hg : GoodQ s ns) {L : List Tr} (hr : room s ns L) {n : Nat} (hn : n < 256) {a b c d : Int} {ta tb tc td : Tr} (ha : Is s ns n a ta) (hb : Is s ns n b tb) (hc : Is s ns n c tc) (hd : Is s ns n d td)
    (hL : Tr.node ta tb tc td ∈ L) : ∃ id ms, join s ns ⟨a, b, c, d⟩ = ((id, 0), ms) ∧ GoodQ s ms ∧ ns <+: ms ∧ room s ms L ∧ Is s ms (n + 1) id (.node ta tb tc td) := by
  have hf := Is.fits hg hn ha hb hc hd
  have h0 : join s ns ⟨a, b, c, d⟩ = joinIn s ns ⟨a, b, c, d⟩ := by
    unfold join
    rw [if_neg, if_neg (by simpa using hf)]
    have la := ha.lvl hg
    have lb := hb.lvl hg
    have lc := hc.lvl hg
    have ld := hd.lvl hg
    simp only [la, lb, lc, ld]
    omega
  have hfull : Full (n + 1) (.node ta tb tc td) := ⟨ha.2.2.1, hb.2.2.1, hc.2.2.1, hd.2.2.1⟩
  have hok : (Tr.node ta tb tc td).ok s := ⟨ha.2.2.2, hb.2.2.2, hc.2.2.2, hd.2.2.2⟩
  cases hi : ns.idxOf? ⟨a, b, c, d⟩ with
  | some i =>
    obtain ⟨hlt, he, _⟩ := List.idxOf?_eq_some_iff.1 hi
    have hk : ns[i]? = some ⟨a, b, c, d⟩ := by rw [List.getElem?_eq_getElem hlt, he]
    refine ⟨s + i, ns, by rw [h0, joinIn_hit hi], hg, List.prefix_refl _, hr, ⟨by have := hg.1; omega, by omega⟩, ?_, hfull, hok⟩
    rw [tr_node hg hk, ha.2.1, hb.2.1, hc.2.1, hd.2.1]
  | none =>
    have hnm : (⟨a, b, c, d⟩ : K4) ∉ ns := List.idxOf?_eq_none_iff.1 hi
    have hT : Tr.node ta tb tc td ∉ trs s ns := by
      intro hm
      obtain ⟨i, hi', he⟩ := List.mem_iff_getElem.1 hm
      rw [trs_length] at hi'
      have h1 : Kn s ns (s + i) := ⟨by have := hg.1; omega, by omega⟩
      have hk : ns[i]? = some ns[i] := List.getElem?_eq_getElem hi'
      have h2 := trs_mem hg hk
      rw [List.getElem?_eq_getElem (by rw [trs_length]; exact hi'), he] at h2
      injection h2 with h2
      injection h2 with e1 e2 e3 e4
      obtain ⟨ka, kb, kc, kd⟩ := good_kids hg hk
      have f1 := tr_inj hg ns.length (x := a) (y := (ns[i]).a) (by have := ha.1.2; omega) ha.1 ⟨ka.1, by omega⟩ (ha.2.1.trans e1)
      have f2 := tr_inj hg ns.length (x := b) (y := (ns[i]).b) (by have := hb.1.2; omega) hb.1 ⟨kb.1, by omega⟩ (hb.2.1.trans e2)
      have f3 := tr_inj hg ns.length (x := c) (y := (ns[i]).c) (by have := hc.1.2; omega) hc.1 ⟨kc.1, by omega⟩ (hc.2.1.trans e3)
      have f4 := tr_inj hg ns.length (x := d) (y := (ns[i]).d) (by have := hd.1.2; omega) hd.1 ⟨kd.1, by omega⟩ (hd.2.1.trans e4)
      apply hnm
      rw [f1, f2, f3, f4]
      exact List.getElem_mem hi'
    have hlt : ns.length < 100000 := by
      have : 1 ≤ (L.filter fun t => decide (t ∉ trs s ns)).length := List.length_pos_of_mem (List.mem_filter.2 ⟨hL, by simpa using hT⟩)
      unfold room at hr; omega
    have hg' := hg.snoc hf hnm hlt
    have hpre : ns <+: ns ++ [⟨a, b, c, d⟩] := List.prefix_append _ _
    have ha' := ha.grow hpre
    have hb' := hb.grow hpre
    have hc' := hc.grow hpre
    have hd' := hd.grow hpre
    refine ⟨s + ns.length, ns ++ [⟨a, b, c, d⟩], by rw [h0, joinIn_new hi hlt], hg', hpre, ?_, ⟨by have := hg.1; omega, by simp; omega⟩, ?_, hfull, hok⟩
    · unfold room at hr ⊢
      rw [trs_snoc, show (Tr.node (tget s (trs s ns) a) (tget s (trs s ns) b) (tget s (trs s ns) c) (tget s (trs s ns) d)) = .node ta tb tc td by rw [← ha.2.1, ← hb.2.1, ← hc.2.1, ← hd.2.1]; rfl]
      have := filter_drop hL hT
      simp only [List.length_append, List.length_cons, List.length_nil]
      omega
    · rw [tr_node hg' (i := ns.length) (k := ⟨a, b, c, d⟩) (by simp), ha'.2.1, hb'.2.1, hc'.2.1, hd'.2.1]
end Go.Proofs.Qs
namespace Go.Proofs.Ev
open Go.Proofs.Qs
set_option linter.unusedVariables false
/-- the nodes of a tree -/
def subs : Tr → List Tr
  | .leaf _ => []
  | .node a b c d => subs a ++ subs b ++ subs c ++ subs d ++ [.node a b c d]
def subN : Nat → Nat
  | 0 => 0
  | n + 1 => 4 * subN n + 1
theorem subs_length : ∀ (n : Nat) {t : Tr}, Full n t → (subs t).length = subN n
  | 0, .leaf v, _ => rfl
  | 0, .node _ _ _ _, h => h.elim
  | n + 1, .leaf _, h => h.elim
  | n + 1, .node a b c d, h => by
    simp only [subs, List.length_append, List.length_cons, List.length_nil, subs_length n h.1, subs_length n h.2.1, subs_length n h.2.2.1, subs_length n h.2.2.2, subN]
    omega
def i9 : List (Nat × Nat) := [(0, 0), (0, 1), (0, 2), (1, 0), (1, 1), (1, 2), (2, 0), (2, 1), (2, 2)]
def i4 : List (Nat × Nat) := [(0, 0), (0, 1), (1, 0), (1, 1)]
/-- the trees that a step may add -/
def need (g : Fld → Fld) (lost : Nat) : Nat → Nat → Tr → List Tr
  | 0, _, _ => []
  | n + 1, k, t =>
    if n + 1 ≤ lost then subs (stp g (n + 1) k t)
    else
      (i9.flatMap fun p => part9 t p.1 p.2 :: if k = n + 1 - lost then need g lost n (k - 1) (part9 t p.1 p.2) else [ctr (part9 t p.1 p.2)]) ++
      (i4.flatMap fun p => out4 g (n + 1) k (decide (k = n + 1 - lost)) t p.1 p.2 :: need g lost n (if k = n + 1 - lost then k - 1 else k) (out4 g (n + 1) k (decide (k = n + 1 - lost)) t p.1 p.2)) ++
      [stp g (n + 1) k t]
def cost (lost : Nat) : Nat → Nat → Nat
  | 0, _ => 0
  | n + 1, k =>
    if n + 1 ≤ lost then subN n
    else 9 * (1 + if k = n + 1 - lost then cost lost n (k - 1) else 1) + 4 * (1 + cost lost n (if k = n + 1 - lost then k - 1 else k)) + 1
theorem need_length (g : Fld → Fld) (lost : Nat) : ∀ (n k : Nat) (t : Tr), (need g lost n k t).length = cost lost n k
  | 0, k, t => rfl
  | n + 1, k, t => by
    unfold need cost
    by_cases h : n + 1 ≤ lost
    · rw [if_pos h, if_pos h, subs_length n (stp_full g (n + 1) k t)]
    · rw [if_neg h, if_neg h]
      by_cases h2 : k = n + 1 - lost
      · simp only [if_pos h2, List.length_append, List.length_flatMap, i9, i4, List.map_cons, List.map_nil, List.length_cons, need_length g lost n, List.sum_cons, List.sum_nil, List.length_nil]
        omega
      · simp only [if_neg h2, List.length_append, List.length_flatMap, i9, i4, List.map_cons, List.map_nil, List.length_cons, need_length g lost n, List.sum_cons, List.sum_nil, List.length_nil]
        omega
theorem cost_tab : ((List.range 2).all fun a => (List.range 7).all fun n => (List.range 5).all fun k => decide (cost (a + 2) n k ≤ 61881)) = true := by decide +kernel
theorem cost_all {lost n k : Nat} (h1 : 2 ≤ lost) (h2 : lost ≤ 3) (hn : n ≤ 6) (hk : k ≤ 4) : cost lost n k ≤ 61881 := by
  have h := cost_tab
  simp only [List.all_eq_true, List.mem_range, decide_eq_true_eq] at h
  have := h (lost - 2) (by omega) n (by omega) k (by omega)
  rwa [show lost - 2 + 2 = lost by omega] at this
end Go.Proofs.Ev
end
