/- The reference of big integers: Form. -/
import Derived.Test.YtbacamboknmppaaDoorJp
namespace Go.Proofs.YtbacamboknmppaaDoor
open Go Go.RowKit Go.Proofs.Rg Go.Proofs.Hp Go.Proofs.Bn
set_option linter.unusedVariables false
set_option linter.unusedSimpArgs false
theorem cut_nil : cutT [] = [] := rfl
theorem cut_neg (cs : List UInt8) : cutT (45 :: cs) = cs ∧ cutN (45 :: cs) = true := by
  refine ⟨?_, rfl⟩
  show Lib.trimPrefix (45 :: cs) [45] = cs
  simp [Lib.trimPrefix, Lib.hasPrefix]
theorem cut_pos {c : UInt8} (cs : List UInt8) (h : c ≠ 45) : cutT (c :: cs) = c :: cs ∧ cutN (c :: cs) = false := by
  have e : Lib.hasPrefix (c :: cs) [45] = false := by
    simp [Lib.hasPrefix, List.isPrefixOf]
    first | exact fun e => h e.symm | exact fun e _ => h e.symm
  refine ⟨?_, e⟩
  show Lib.trimPrefix (c :: cs) [45] = c :: cs
  unfold Lib.trimPrefix
  rw [e]; rfl
theorem ext_tail (c : UInt8) (T : List UInt8) : (⟨(c :: T).toArray⟩ : ByteArray).extract 1 (T.length + 1) = ⟨T.toArray⟩ := by
  apply ByteArray.ext
  rw [ByteArray.data_extract]
  simp
theorem badF_some {bs : List UInt8} {c : UInt8} {r : List UInt8} (h : cutT bs = c :: r) : badF bs = ((c == 48 && (decide (r ≠ []) || cutN bs)) || decide (Lib.trimS (c :: r) digB ≠ [])) := by
  unfold badF
  rw [h]
theorem badF_none {bs : List UInt8} (h : cutT bs = []) : badF bs = true := by
  unfold badF
  rw [h]
theorem badF_dig {bs : List UInt8} {i : Nat} {ch : UInt8} (h : (cutT bs)[i]? = some ch) (hn : digB.contains ch = false) : badF bs = true := by
  cases hc : cutT bs with
  | nil => exact badF_none hc
  | cons c r =>
    rw [badF_some hc]
    have : Lib.trimS (c :: r) digB ≠ [] := fun e => by
      have h2 := trimS_nil.1 e ch (by rw [← hc]; exact List.mem_of_getElem? h)
      rw [hn] at h2; cases h2
    rw [decide_eq_true this, Bool.or_true]
set_option maxHeartbeats 4000000 in
set_option maxRecDepth 100000 in
theorem Form_calls {w : World} {bs : List UInt8} (hs : bs.length ≤ 10000) :
    Calls Tryd.prog 55 #[.string ⟨bs.toArray⟩] w fun e w' => e = .returned (.bool (!badF bs)) ∧ w = w' := by
  obtain ⟨r, hS⟩ : ∃ r, r = !badF bs := ⟨_, rfl⟩
  rw [← hS]
  have HS := Lib.hid hS
  clear hS
  cases hbs : bs with
  | nil =>
    have hr : r = false := by rw [HS.out, hbs, badF_none cut_nil]; rfl
    subst hr
    clear hs
    go_enter Tryd.func55, Tryd.ntmps55
    go_wp2_with fail
    go_loop [4] (fun x4 => x4 = .int .i64 0) (fun _ => 0)
    case atStart => rfl
    case round =>
      subst hrel
      go_wp2_with fail
      go_ret
      exact ⟨rfl, rfl⟩
  | cons c cs =>
    have hlc : cs.length ≤ 10000 := by rw [hbs] at hs; simp at hs; omega
    have hch : ∀ h, ((⟨(c :: cs).toArray⟩ : ByteArray)[0]'h).toNat = c.toNat := fun h => rfl
    by_cases h45 : c = 45
    · subst h45
      obtain ⟨T, hT⟩ : ∃ T, cs = T := ⟨_, rfl⟩
      have HT : Hid (cutT bs = T) := Lib.hid (by rw [hbs, (cut_neg cs).1, hT])
      have HN : Hid (cutN bs = true) := Lib.hid (by rw [hbs, (cut_neg cs).2])
      have Hbs := Lib.hid hbs
      rw [hT] at hlc ⊢
      have Ext := ext_tail 45 T
      have h45 : ((45 : UInt8).toNat : Int) = 45 := rfl
      have Hw : ∀ c q, T = c :: q → Hid ((!(c == 48 && (decide (q ≠ []) || cutN bs))) = ((!(c == 48 && decide (q ≠ []))) && !(c == 48 && decide (q = [])))) := fun c q _ => Lib.hid (by rw [HN.out]; cases c == 48 <;> by_cases h : q = [] <;> simp [h])
      clear hs hT
      go_enter Tryd.func55, Tryd.ntmps55
      go_wp2_with fail
      clear Ext hch h45
      go_loop [4] (fun x4 => ∃ i : Nat, x4 = .int .i64 i ∧ i ≤ T.length ∧ ∀ j ch, j < i → T[j]? = some ch → digB.contains ch = true) (fun x4 => T.length - (intOf x4).toNat)
      case atStart => exact ⟨0, rfl, by omega, fun j ch hj => absurd hj (by omega)⟩
      case round =>
        obtain ⟨i, rfl, hi, hall⟩ := hrel
        have Hall := Lib.hid hall
        clear hall
        by_cases hin : i < T.length
        · obtain ⟨ch, hch⟩ : ∃ ch, T[i]? = some ch := ⟨_, List.getElem?_eq_getElem hin⟩
          obtain ⟨x, hx⟩ : ∃ x, ch.toNat = x := ⟨_, rfl⟩
          have hget : ∀ h, ((⟨T.toArray⟩ : ByteArray)[i]'h).toNat = x := fun h => by
            rw [← hx]
            have h2 : T[i]'hin = ch := by rw [List.getElem?_eq_getElem hin] at hch; exact Option.some.inj hch
            rw [← h2]; rfl
          have hdig := isdig ch
          rw [hx] at hdig
          have hx256 : x < 256 := by rw [← hx]; exact UInt8.toNat_lt ch
          by_cases hd : 48 ≤ x ∧ x ≤ 57
          · have h1 : decide ((x : Int) < 48) = false := by rw [decide_eq_false_iff_not]; omega
            have h1' : decide (x < 48) = false := by rw [decide_eq_false_iff_not]; omega
            have h2 : decide ((57 : Int) < x) = false := by rw [decide_eq_false_iff_not]; omega
            have h2' : decide (57 < x) = false := by rw [decide_eq_false_iff_not]; omega
            have Hnext := Lib.hid (show ∀ j c, j < i + 1 → T[j]? = some c → digB.contains c = true from fun j c hj hc => by
              rcases Nat.lt_or_ge j i with h | h
              · exact Hall.out j c h hc
              · obtain rfl : j = i := by omega
                rw [hch] at hc
                rw [← Option.some.inj hc]; exact hdig.2 hd)
            clear hdig hch hd hx
            go_wp2_with fail
            go_round
            case rel => exact ⟨i + 1, by go_num, by omega, Hnext.out⟩
            case measure => simp [intOf]; omega
          · have hb : r = false := by
              have hc : digB.contains ch = false := by
                cases h : digB.contains ch with
                | false => rfl
                | true => exact absurd (hdig.1 h) hd
              rw [HS.out, badF_dig (i := i) (by rw [HT.out]; exact hch) hc]; rfl
            have Hb := Lib.hid hb
            clear hdig hch hb hx
            by_cases h1 : x < 48
            · have h1' : decide (x < 48) = true := by simpa using h1
              have h1'' : decide ((x : Int) < 48) = true := by rw [decide_eq_true_eq]; omega
              clear hd
              go_wp2_with fail
              go_ret
              exact ⟨by rw [Hb.out]; rfl, rfl⟩
            · have h1' : decide (x < 48) = false := by simpa using h1
              have h1'' : decide ((x : Int) < 48) = false := by rw [decide_eq_false_iff_not]; omega
              have h2 : decide ((57 : Int) < x) = true := by rw [decide_eq_true_eq]; omega
              have h2' : decide (57 < x) = true := by rw [decide_eq_true_eq]; omega
              clear hd
              go_wp2_with fail
              go_ret
              exact ⟨by rw [Hb.out]; rfl, rfl⟩
        · obtain rfl : i = T.length := by omega
          have htr : Lib.trimS T digB = [] := trimS_nil.2 fun b hb => by
            obtain ⟨j, hj, e⟩ := List.getElem_of_mem hb
            exact Hall.out j b hj (by rw [List.getElem?_eq_getElem hj, e])
          have Htr := Lib.hid htr
          clear htr hin
          rcases T with _ | ⟨c, q⟩
          · have hb : r = false := by rw [HS.out, badF_none HT.out]; rfl
            have Hb := Lib.hid hb
            clear hb
            go_wp2_with fail
            go_ret
            exact ⟨by rw [Hb.out]; rfl, rfl⟩
          · have hbad : r = !(c == 48 && (decide (q ≠ []) || cutN bs)) := by
              rw [HS.out, badF_some HT.out, Htr.out]; simp
            have Hbad := Lib.hid hbad
            have hch0 : ∀ h, ((⟨(c :: q).toArray⟩ : ByteArray)[0]'h).toNat = c.toNat := fun h => rfl
            have hz : ((c.toNat : Int) == 48) = (c == 48) := by
              rw [Bool.eq_iff_iff, beq_iff_eq, beq_iff_eq]
              constructor
              · intro h; exact UInt8.toNat_inj.1 (by show c.toNat = 48; omega)
              · rintro rfl; rfl
            have hlg : decide ((1 : Int) < (q.length : Int) + 1) = decide (q ≠ []) := by
              rw [decide_eq_decide]
              cases q <;> simp
              omega
            clear hbad
            obtain ⟨z, hze⟩ : ∃ z, (c == 48) = z := ⟨_, rfl⟩
            obtain ⟨lg, hlge⟩ : ∃ lg, decide (q ≠ []) = lg := ⟨_, rfl⟩
            rw [hze] at hz
            rw [hlge] at hlg
            rw [hze, hlge] at Hbad
            have Hz := Lib.hid (And.intro hze hlge)
            clear hze hlge
            cases z <;> cases lg
            all_goals
              go_wp2_with fail
              go_ret
              refine ⟨?_, rfl⟩
              rw [Hbad.out, HN.out]
              obtain ⟨h1, h2⟩ := Hz.out
              first
                | rfl
                | (show Ending.returned (Value.bool (!c == 48 || !q.isEmpty)) = _; rw [h1]; first | rfl | (cases q <;> first | rfl | (simp at h2)))
                | (show Ending.returned (Value.bool (!c == 45 || !q == [48])) = _; rw [beq_eq_false_iff_ne.2 (Hc.out c q rfl)]; rfl)
    · have hbs2 := hbs
      have hc45 : ((c.toNat : Int) == 45) = false := by
        rw [beq_eq_false_iff_ne]
        intro h
        exact h45 (UInt8.toNat_inj.1 (by show c.toNat = 45; omega))
      clear hbs2
      have Hbs := Lib.hid hbs
      have Hh45 := Lib.hid h45
      have hlT : (c :: cs).length ≤ 10000 := by rw [hbs] at hs; exact hs
      clear hbs hs
      go_enter Tryd.func55, Tryd.ntmps55
      go_wp2_with fail
      obtain ⟨T, hT⟩ : ∃ T, c :: cs = T := ⟨_, rfl⟩
      have HT : Hid (cutT bs = T) := Lib.hid (by rw [Hbs.out, (cut_pos cs h45).1, hT])
      have HN : Hid (cutN bs = false) := Lib.hid (by rw [Hbs.out, (cut_pos cs h45).2])
      have Hc : Hid (∀ c' q', T = c' :: q' → c' ≠ 45) := Lib.hid (fun c' q' e => by rw [← hT] at e; obtain ⟨rfl, _⟩ := List.cons.inj e; exact h45)
      rw [hT] at hlT Hbs ⊢
      have hlc : T.length ≤ 10000 := hlT
      clear hch hc45 hlT hT h45
      go_loop [4] (fun x4 => ∃ i : Nat, x4 = .int .i64 i ∧ i ≤ T.length ∧ ∀ j ch, j < i → T[j]? = some ch → digB.contains ch = true) (fun x4 => T.length - (intOf x4).toNat)
      case atStart => exact ⟨0, rfl, by omega, fun j ch hj => absurd hj (by omega)⟩
      case round =>
        obtain ⟨i, rfl, hi, hall⟩ := hrel
        have Hall := Lib.hid hall
        clear hall
        by_cases hin : i < T.length
        · obtain ⟨ch, hch⟩ : ∃ ch, T[i]? = some ch := ⟨_, List.getElem?_eq_getElem hin⟩
          obtain ⟨x, hx⟩ : ∃ x, ch.toNat = x := ⟨_, rfl⟩
          have hget : ∀ h, ((⟨T.toArray⟩ : ByteArray)[i]'h).toNat = x := fun h => by
            rw [← hx]
            have h2 : T[i]'hin = ch := by rw [List.getElem?_eq_getElem hin] at hch; exact Option.some.inj hch
            rw [← h2]; rfl
          have hdig := isdig ch
          rw [hx] at hdig
          have hx256 : x < 256 := by rw [← hx]; exact UInt8.toNat_lt ch
          by_cases hd : 48 ≤ x ∧ x ≤ 57
          · have h1 : decide ((x : Int) < 48) = false := by rw [decide_eq_false_iff_not]; omega
            have h1' : decide (x < 48) = false := by rw [decide_eq_false_iff_not]; omega
            have h2 : decide ((57 : Int) < x) = false := by rw [decide_eq_false_iff_not]; omega
            have h2' : decide (57 < x) = false := by rw [decide_eq_false_iff_not]; omega
            have Hnext := Lib.hid (show ∀ j c, j < i + 1 → T[j]? = some c → digB.contains c = true from fun j c hj hc => by
              rcases Nat.lt_or_ge j i with h | h
              · exact Hall.out j c h hc
              · obtain rfl : j = i := by omega
                rw [hch] at hc
                rw [← Option.some.inj hc]; exact hdig.2 hd)
            clear hdig hch hd hx
            go_wp2_with fail
            go_round
            case rel => exact ⟨i + 1, by go_num, by omega, Hnext.out⟩
            case measure => simp [intOf]; omega
          · have hb : r = false := by
              have hc : digB.contains ch = false := by
                cases h : digB.contains ch with
                | false => rfl
                | true => exact absurd (hdig.1 h) hd
              rw [HS.out, badF_dig (i := i) (by rw [HT.out]; exact hch) hc]; rfl
            have Hb := Lib.hid hb
            clear hdig hch hb hx
            by_cases h1 : x < 48
            · have h1' : decide (x < 48) = true := by simpa using h1
              have h1'' : decide ((x : Int) < 48) = true := by rw [decide_eq_true_eq]; omega
              clear hd
              go_wp2_with fail
              go_ret
              exact ⟨by rw [Hb.out]; rfl, rfl⟩
            · have h1' : decide (x < 48) = false := by simpa using h1
              have h1'' : decide ((x : Int) < 48) = false := by rw [decide_eq_false_iff_not]; omega
              have h2 : decide ((57 : Int) < x) = true := by rw [decide_eq_true_eq]; omega
              have h2' : decide (57 < x) = true := by rw [decide_eq_true_eq]; omega
              clear hd
              go_wp2_with fail
              go_ret
              exact ⟨by rw [Hb.out]; rfl, rfl⟩
        · obtain rfl : i = T.length := by omega
          have htr : Lib.trimS T digB = [] := trimS_nil.2 fun b hb => by
            obtain ⟨j, hj, e⟩ := List.getElem_of_mem hb
            exact Hall.out j b hj (by rw [List.getElem?_eq_getElem hj, e])
          have Htr := Lib.hid htr
          clear htr hin
          rcases T with _ | ⟨c, q⟩
          · have hb : r = false := by rw [HS.out, badF_none HT.out]; rfl
            have Hb := Lib.hid hb
            clear hb
            go_wp2_with fail
            go_ret
            exact ⟨by rw [Hb.out]; rfl, rfl⟩
          · have hbad : r = !(c == 48 && (decide (q ≠ []) || cutN bs)) := by
              rw [HS.out, badF_some HT.out, Htr.out]; simp
            have Hbad := Lib.hid hbad
            have hch0 : ∀ h, ((⟨(c :: q).toArray⟩ : ByteArray)[0]'h).toNat = c.toNat := fun h => rfl
            have hz : ((c.toNat : Int) == 48) = (c == 48) := by
              rw [Bool.eq_iff_iff, beq_iff_eq, beq_iff_eq]
              constructor
              · intro h; exact UInt8.toNat_inj.1 (by show c.toNat = 48; omega)
              · rintro rfl; rfl
            have hlg : decide ((1 : Int) < (q.length : Int) + 1) = decide (q ≠ []) := by
              rw [decide_eq_decide]
              cases q <;> simp
              omega
            clear hbad
            obtain ⟨z, hze⟩ : ∃ z, (c == 48) = z := ⟨_, rfl⟩
            obtain ⟨lg, hlge⟩ : ∃ lg, decide (q ≠ []) = lg := ⟨_, rfl⟩
            rw [hze] at hz
            rw [hlge] at hlg
            rw [hze, hlge] at Hbad
            have Hz := Lib.hid (And.intro hze hlge)
            clear hze hlge
            cases z <;> cases lg
            all_goals
              go_wp2_with fail
              go_ret
              refine ⟨?_, rfl⟩
              rw [Hbad.out, HN.out]
              obtain ⟨h1, h2⟩ := Hz.out
              first
                | rfl
                | (show Ending.returned (Value.bool (!c == 48 || !q.isEmpty)) = _; rw [h1]; first | rfl | (cases q <;> first | rfl | (simp at h2)))
                | (show Ending.returned (Value.bool (!c == 45 || !q == [48])) = _; rw [beq_eq_false_iff_ne.2 (Hc.out c q rfl)]; rfl)
end Go.Proofs.YtbacamboknmppaaDoor
