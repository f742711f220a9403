/- The rules of a directory match nothing outside it: the plain side. -/
import Derived.Test.YtabimfpjdcggaaaDoorIgEnds
namespace Go.Proofs.YtabimfpjdcggaaaDoor.X
open Go.RowKit Go.Proofs.YtabimfpjdcggaaaDoorW.PrintWords Go.Proofs.YtabimfpjdcggaaaDoorW.PrintLast Go.Proofs.YtabimfpjdcggaaaDoorW.PrintMore

/-! ### a rule's folder is the file's -/
theorem cutPrefix_tot (s c : ByteArray) : ∃ r, strings_CutPrefix.f s c = some r ∧ r.1.size ≤ s.size := by
  unfold strings_CutPrefix.f stringslite_CutPrefix.f stringslite_HasPrefix.f
  by_cases h : (s.size : Int) ≥ (c.size : Int)
  · rw [if_pos h, if_pos (by omega), if_pos (by omega)]
    simp only [Option.bind_some]
    split
    · first
        | exact ⟨_, rfl, size_extract_le _ _ _⟩
        | (rw [if_pos (by omega), if_pos (by omega)]; exact ⟨_, rfl, size_extract_le _ _ _⟩)
        | (rw [if_pos (by omega)]; exact ⟨_, rfl, size_extract_le _ _ _⟩)
    · exact ⟨_, rfl, Nat.le_refl _⟩
  · rw [if_neg h]
    exact ⟨_, rfl, Nat.le_refl _⟩
theorem cutSuffix_tot (s c : ByteArray) (hs : s.size ≤ 1000000) (hc : c.size ≤ 1000000) : ∃ r, strings_CutSuffix.f s c = some r ∧ r.1.size ≤ s.size := by
  have w : wrap64 ((s.size : Int) - (c.size : Int)) = (s.size : Int) - (c.size : Int) := wrap_in (by omega) (by omega)
  unfold strings_CutSuffix.f stringslite_CutSuffix.f stringslite_HasSuffix.f
  rw [w]
  by_cases h : (s.size : Int) ≥ (c.size : Int)
  · rw [if_pos h, if_pos (by omega), if_pos (by omega)]
    simp only [Option.bind_some]
    split
    · first
        | exact ⟨_, rfl, size_extract_le _ _ _⟩
        | (rw [if_pos (by omega), if_pos (by omega)]; exact ⟨_, rfl, size_extract_le _ _ _⟩)
        | (rw [if_pos (by omega)]; exact ⟨_, rfl, size_extract_le _ _ _⟩)
    · exact ⟨_, rfl, Nat.le_refl _⟩
  · rw [if_neg h]
    exact ⟨_, rfl, Nat.le_refl _⟩
theorem rule_j2 (s a b : ByteArray) (p q r : Bool) (hs : s.size ≤ 1000000) : ∃ x, Ev (fun k => ignore_rule.j2 k s a b p q r) x ∧ x.2.1 = b := by
  have e : ∀ k, ignore_rule.j2 (k + 1) s a b p q r = (strings_CutSuffix.f s (⟨#[47]⟩ : ByteArray)).bind fun bt129 => ((strings_Contains.f bt129.1 (⟨#[47]⟩ : ByteArray)).bind fun t131 => (if t131 = true then ((strings_TrimPrefix.f bt129.1 (⟨#[47]⟩ : ByteArray)).bind fun t132 => ((glob_Is.f k t132).bind fun t133 => (some (t132, b, p, bt129.2, true, t133)))) else ((glob_Is.f k bt129.1).bind fun t134 => (some (bt129.1, b, p, bt129.2, r, t134))))) := fun k => by simp only [ignore_rule.j2]
  obtain ⟨c, hc, hcs⟩ := cutSuffix_tot s (⟨#[47]⟩ : ByteArray) hs (by decide)
  have hco : strings_Contains.f c.1 (⟨#[47]⟩ : ByteArray) = some (decide (0 ≤ Lib.indexByte c.1.data.toList 47)) := by unfold strings_Contains.f; rw [if_pos (show (⟨#[47]⟩ : ByteArray).size = 1 from rfl)]; rfl
  by_cases h : decide (0 ≤ Lib.indexByte c.1.data.toList 47) = true
  · obtain ⟨g, hg⟩ := globIs_tot ⟨(Lib.trimPrefix c.1.data.toList (⟨#[47]⟩ : ByteArray).data.toList).toArray⟩
    refine ⟨(_, b, p, c.2, true, g), Ev.step e (Ev.val (f := fun k bt129 => ((strings_Contains.f bt129.1 (⟨#[47]⟩ : ByteArray)).bind fun t131 => (if t131 = true then ((strings_TrimPrefix.f bt129.1 (⟨#[47]⟩ : ByteArray)).bind fun t132 => ((glob_Is.f k t132).bind fun t133 => (some (t132, b, p, bt129.2, true, t133)))) else ((glob_Is.f k bt129.1).bind fun t134 => (some (bt129.1, b, p, bt129.2, r, t134)))))) hc (Ev.val (f := fun k t131 => (if t131 = true then ((strings_TrimPrefix.f c.1 (⟨#[47]⟩ : ByteArray)).bind fun t132 => ((glob_Is.f k t132).bind fun t133 => (some (t132, b, p, c.2, true, t133)))) else ((glob_Is.f k c.1).bind fun t134 => (some (c.1, b, p, c.2, r, t134))))) hco (Ev.pos h (Ev.val (a := strings_TrimPrefix.f c.1 (⟨#[47]⟩ : ByteArray)) rfl (Ev.bind hg (Ev.now _)))))), rfl⟩
  · obtain ⟨g, hg⟩ := globIs_tot c.1
    refine ⟨(_, b, p, c.2, r, g), Ev.step e (Ev.val (f := fun k bt129 => ((strings_Contains.f bt129.1 (⟨#[47]⟩ : ByteArray)).bind fun t131 => (if t131 = true then ((strings_TrimPrefix.f bt129.1 (⟨#[47]⟩ : ByteArray)).bind fun t132 => ((glob_Is.f k t132).bind fun t133 => (some (t132, b, p, bt129.2, true, t133)))) else ((glob_Is.f k bt129.1).bind fun t134 => (some (bt129.1, b, p, bt129.2, r, t134)))))) hc (Ev.val (f := fun k t131 => (if t131 = true then ((strings_TrimPrefix.f c.1 (⟨#[47]⟩ : ByteArray)).bind fun t132 => ((glob_Is.f k t132).bind fun t133 => (some (t132, b, p, c.2, true, t133)))) else ((glob_Is.f k c.1).bind fun t134 => (some (c.1, b, p, c.2, r, t134))))) hco (Ev.neg h (Ev.bind hg (Ev.now _))))), rfl⟩
theorem rule_j1 (s a b : ByteArray) (x30 p q r : Bool) (hs : s.size ≤ 1000000) (h1 : x30 = true → 1 ≤ s.size) : ∃ x, Ev (fun k => ignore_rule.j1 k s x30 a b p q r) x ∧ x.2.1 = b := by
  have e : ∀ k, ignore_rule.j1 (k + 1) s x30 a b p q r = if x30 = true then (if 1 ≤ (s.size : Int) then (ignore_rule.j2 k (s.extract 1 s.size) a b p q r) else (none)) else (ignore_rule.j2 k s a b p q r) := fun k => by simp only [ignore_rule.j1]
  by_cases h : x30 = true
  · obtain ⟨x, hx, hb⟩ := rule_j2 (s.extract 1 s.size) a b p q r (Nat.le_trans (size_extract_le _ _ _) hs)
    exact ⟨x, Ev.step e (Ev.pos h (Ev.pos (by have := h1 h; omega) hx)), hb⟩
  · obtain ⟨x, hx, hb⟩ := rule_j2 s a b p q r hs
    exact ⟨x, Ev.step e (Ev.neg h hx), hb⟩
theorem hasPrefix_size (s : ByteArray) (c : List UInt8) (h : Lib.hasPrefix s.data.toList c = true) (hc : 1 ≤ c.length) : 1 ≤ s.size := by
  have := (List.isPrefixOf_iff_prefix.mp h).length_le
  have e : s.size = s.data.toList.length := by simp
  omega
theorem rule_j0 (s a b : ByteArray) (x17 p q r : Bool) (hs : s.size ≤ 1000000) : ∃ x, Ev (fun k => ignore_rule.j0 k s x17 a b p q r) x ∧ x.2.1 = b := by
  have e : ∀ k, ignore_rule.j0 (k + 1) s x17 a b p q r = if x17 = true then (some (a, b, p, q, r, false)) else ((strings_CutPrefix.f s (⟨#[33]⟩ : ByteArray)).bind fun bt125 => ((strings_HasPrefix.f bt125.1 (⟨#[92, 35]⟩ : ByteArray)).bind fun t127 => (if t127 = true then (ignore_rule.j1 k bt125.1 true a b bt125.2 q r) else ((strings_HasPrefix.f bt125.1 (⟨#[92, 33]⟩ : ByteArray)).bind fun t128 => (ignore_rule.j1 k bt125.1 t128 a b bt125.2 q r))))) := fun k => by simp only [ignore_rule.j0]
  by_cases h : x17 = true
  · exact ⟨_, Ev.step e (Ev.pos h (Ev.now _)), rfl⟩
  · obtain ⟨c, hc, hcs⟩ := cutPrefix_tot s (⟨#[33]⟩ : ByteArray)
    by_cases h2 : Lib.hasPrefix c.1.data.toList [92, 35] = true
    · obtain ⟨x, hx, hb⟩ := rule_j1 c.1 a b true c.2 q r (by omega) (fun _ => hasPrefix_size _ _ h2 (by decide))
      exact ⟨x, Ev.step e (Ev.neg h (Ev.val (f := fun k bt125 => ((strings_HasPrefix.f bt125.1 (⟨#[92, 35]⟩ : ByteArray)).bind fun t127 => (if t127 = true then (ignore_rule.j1 k bt125.1 true a b bt125.2 q r) else ((strings_HasPrefix.f bt125.1 (⟨#[92, 33]⟩ : ByteArray)).bind fun t128 => (ignore_rule.j1 k bt125.1 t128 a b bt125.2 q r))))) hc (Ev.val (a := strings_HasPrefix.f c.1 (⟨#[92, 35]⟩ : ByteArray)) rfl (Ev.pos h2 hx)))), hb⟩
    · obtain ⟨x, hx, hb⟩ := rule_j1 c.1 a b (Lib.hasPrefix c.1.data.toList [92, 33]) c.2 q r (by omega) (fun h3 => hasPrefix_size _ _ h3 (by decide))
      exact ⟨x, Ev.step e (Ev.neg h (Ev.val (f := fun k bt125 => ((strings_HasPrefix.f bt125.1 (⟨#[92, 35]⟩ : ByteArray)).bind fun t127 => (if t127 = true then (ignore_rule.j1 k bt125.1 true a b bt125.2 q r) else ((strings_HasPrefix.f bt125.1 (⟨#[92, 33]⟩ : ByteArray)).bind fun t128 => (ignore_rule.j1 k bt125.1 t128 a b bt125.2 q r))))) hc (Ev.val (a := strings_HasPrefix.f c.1 (⟨#[92, 35]⟩ : ByteArray)) rfl (Ev.neg h2 (Ev.val (a := strings_HasPrefix.f c.1 (⟨#[92, 33]⟩ : ByteArray)) rfl hx))))), hb⟩
theorem trim_size (s : ByteArray) (c : UInt8) : (⟨(Lib.trimRightB s.data.toList c).toArray⟩ : ByteArray).size ≤ s.size := by
  show (Lib.trimRightB s.data.toList c).toArray.size ≤ s.data.size
  unfold Lib.trimRightB
  simp only [List.size_toArray, List.length_reverse]
  refine Nat.le_trans (List.dropWhile_sublist _).length_le ?_
  simp
theorem toList_nil {s : ByteArray} (h : ¬ s.toList = ([] : List UInt8)) : 0 < s.size := by
  rw [Lib.toList_data] at h
  have e : s.size = s.data.toList.length := by simp
  cases hl : s.data.toList with
  | nil => exact absurd hl h
  | cons a l => rw [hl] at e; simp at e; omega
theorem rule_tot (s b : ByteArray) (hs : s.size ≤ 1000000) : ∃ x, Ev (fun k => ignore_rule.f k s b) x ∧ x.2.1 = b := by
  unfold ignore_rule.f
  have ht : strings_TrimRight.f s (⟨#[32]⟩ : ByteArray) = some ⟨(Lib.trimRightB s.data.toList 32).toArray⟩ := by
    unfold strings_TrimRight.f; rw [if_pos ⟨rfl, by decide, by omega⟩]; rfl
  have hsz := trim_size s 32
  generalize (⟨(Lib.trimRightB s.data.toList 32).toArray⟩ : ByteArray) = t at ht hsz
  by_cases h : t.toList = ([] : List UInt8)
  · obtain ⟨x, hx, hb⟩ := rule_j0 t (⟨#[]⟩ : ByteArray) b true false false false (by omega)
    exact ⟨x, Ev.val (f := fun k t124 => (if t124.toList = ([] : List UInt8) then (ignore_rule.j0 k t124 true (⟨#[]⟩ : ByteArray) b false false false) else (if 0 < (t124.size : Int) then (ignore_rule.j0 k t124 ((bt t124 0) == 35) (⟨#[]⟩ : ByteArray) b false false false) else (none)))) ht (Ev.pos h hx), hb⟩
  · obtain ⟨x, hx, hb⟩ := rule_j0 t (⟨#[]⟩ : ByteArray) b (bt t 0 == 35) false false false (by omega)
    exact ⟨x, Ev.val (f := fun k t124 => (if t124.toList = ([] : List UInt8) then (ignore_rule.j0 k t124 true (⟨#[]⟩ : ByteArray) b false false false) else (if 0 < (t124.size : Int) then (ignore_rule.j0 k t124 ((bt t124 0) == 35) (⟨#[]⟩ : ByteArray) b false false false) else (none)))) ht (Ev.neg h (Ev.pos (by have := toList_nil h; omega) hx)), hb⟩

/-! ### lines.Split -/
theorem indexByte_lt : ∀ (l : List UInt8) (c : UInt8), Lib.indexByte l c < l.length
  | [], c => by simp [Lib.indexByte]
  | b :: l, c => by
    have ih := indexByte_lt l c
    unfold Lib.indexByte
    rw [List.length_cons]
    split
    · omega
    · split <;> omega
theorem lines_loop : ∀ (d : Nat) (s : ByteArray) (l : List ByteArray), s.size ≤ d → s.size + l.length ≤ 1000000 → (∀ x, x ∈ l → x.size ≤ 1000000) → ∃ r, Ev (fun k => lines_Split.l0 k s l) r ∧ r.length ≤ s.size + l.length ∧ ∀ x, x ∈ r → x.size ≤ 1000000
  | 0, s, l, hd, hl, hx => ⟨l, Ev.step (fun k => rfl) (Ev.pos (by
      rw [Lib.toList_data]
      have e : s.size = s.data.toList.length := by simp
      exact List.length_eq_zero_iff.mp (by omega)) (Ev.now l)), by omega, hx⟩
  | d + 1, s, l, hd, hl, hx => by
    by_cases h : s.toList = ([] : List UInt8)
    · exact ⟨l, Ev.step (fun k => rfl) (Ev.pos h (Ev.now l)), by omega, hx⟩
    · have h0 := toList_nil h
      have hi : strings_Index.f s (⟨#[10]⟩ : ByteArray) = some (Lib.indexByte s.data.toList 10) := by unfold strings_Index.f; rw [if_pos (show (⟨#[10]⟩ : ByteArray).size = 1 from rfl)]; rfl
      have hg := Lib.indexByte_ge s.data.toList 10
      have hlt := indexByte_lt s.data.toList 10
      have es : s.data.toList.length = s.size := by simp
      rw [es] at hlt
      generalize Lib.indexByte s.data.toList 10 = i at hi hg hlt
      have w1 : wrap64 (i + 1) = i + 1 := wrap_in (by omega) (by omega)
      by_cases c : wrap64 (i + 1) = 0
      · obtain ⟨r, hr, h1, h2⟩ := lines_loop d (s.extract s.size s.size) (l ++ [s]) (by rw [ByteArray.size_extract]; omega) (by rw [ByteArray.size_extract, List.length_append]; simp; omega) (fun x h => by
          rcases List.mem_append.mp h with h | h
          · exact hx x h
          · rw [List.mem_singleton.mp h]; omega)
        refine ⟨r, Ev.step (fun k => rfl) (Ev.neg h (Ev.val hi (Ev.pos c (Ev.pos (by omega) (Ev.pos (by omega) (Ev.pos (by omega) hr)))))), ?_, h2⟩
        rw [ByteArray.size_extract, List.length_append] at h1
        simp at h1
        omega
      · obtain ⟨r, hr, h1, h2⟩ := lines_loop d (s.extract (wrap64 (i + 1) : Int).toNat s.size) (l ++ [s.extract 0 (wrap64 (i + 1) : Int).toNat]) (by rw [ByteArray.size_extract]; omega) (by rw [ByteArray.size_extract, List.length_append]; simp; omega) (fun x h => by
          rcases List.mem_append.mp h with h | h
          · exact hx x h
          · rw [List.mem_singleton.mp h]; exact Nat.le_trans (size_extract_le _ _ _) (by omega))
        refine ⟨r, Ev.step (fun k => rfl) (Ev.neg h (Ev.val hi (Ev.neg c (Ev.pos (by omega) (Ev.pos (by omega) (Ev.pos (by omega) hr)))))), ?_, h2⟩
        rw [ByteArray.size_extract, List.length_append] at h1
        simp at h1
        omega
theorem lines_tot (s : ByteArray) (hs : s.size ≤ 1000) : ∃ r, Ev (fun k => lines_Split.f k s) r ∧ r.length ≤ 1000 ∧ ∀ x, x ∈ r → x.size ≤ 1000000 := by
  obtain ⟨r, h1, h2, h3⟩ := lines_loop s.size s [] (Nat.le_refl _) (by simp; omega) (fun x h => by simp at h)
  exact ⟨r, h1, by simp at h2; omega, h3⟩

/-! ### Parse -/
theorem rdOf_mem {l : List ByteArray} {i : Int} (h0 : 0 ≤ i) (h1 : i < l.length) : rdOf ByteArray.empty l i ∈ l := by
  unfold rdOf
  rw [List.getD_eq_getElem?_getD, List.getElem?_eq_getElem (by omega)]
  exact List.getElem_mem _
theorem parse_loop (dir : ByteArray) (l : List ByteArray) (hl : l.length ≤ 1000) (hx : ∀ x, x ∈ l → x.size ≤ 1000000) : ∀ (d : Nat) (out : List S40) (i : Int), 0 ≤ i → i ≤ l.length → (l.length : Int) - i ≤ d → out.length ≤ i → (∀ r, r ∈ out → r.f1 = dir) →
    ∃ r, Ev (fun k => ignore_Parse.l0 k dir out l (l.length : Int) i) r ∧ r.length ≤ l.length ∧ ∀ x, x ∈ r → x.f1 = dir
  | 0, out, i, h0, h1, hd, ho, hr => ⟨out, Ev.step (fun k => rfl) (Ev.neg (by omega) (Ev.now out)), by omega, hr⟩
  | d + 1, out, i, h0, h1, hd, ho, hr => by
    by_cases h : i < l.length
    · have hm := hx _ (rdOf_mem h0 h)
      have w1 : wrap64 (i + 1) = i + 1 := wrap_in (by omega) (by omega)
      have ht : strings_TrimSuffix.f (rdOf ByteArray.empty l i) (⟨#[10]⟩ : ByteArray) = some ⟨(Lib.trimSuffix (rdOf ByteArray.empty l i).data.toList (⟨#[10]⟩ : ByteArray).data.toList).toArray⟩ := by
        unfold strings_TrimSuffix.f; rw [if_pos (by omega)]
      have hts : (⟨(Lib.trimSuffix (rdOf ByteArray.empty l i).data.toList (⟨#[10]⟩ : ByteArray).data.toList).toArray⟩ : ByteArray).size ≤ 1000000 := by
        show (Lib.trimSuffix (rdOf ByteArray.empty l i).data.toList (⟨#[10]⟩ : ByteArray).data.toList).toArray.size ≤ 1000000
        rw [List.size_toArray]
        unfold Lib.trimSuffix
        have e : (rdOf ByteArray.empty l i).data.toList.length = (rdOf ByteArray.empty l i).size := by simp
        split
        · rw [List.length_take]; omega
        · omega
      obtain ⟨x, hxe, hxb⟩ := rule_tot _ dir hts
      by_cases hb : x.2.2.2.2.2 = true
      · obtain ⟨r, h2, h3, h4⟩ := parse_loop dir l hl hx d (out ++ [(⟨x.1, x.2.1, x.2.2.1, x.2.2.2.1, x.2.2.2.2.1⟩ : S40)]) (i + 1) (by omega) (by omega) (by omega) (by rw [List.length_append]; simp; omega) (fun r h => by
          rcases List.mem_append.mp h with h | h
          · exact hr r h
          · rw [List.mem_singleton.mp h]; exact hxb)
        exact ⟨r, Ev.step (fun k => rfl) (Ev.pos h (Ev.pos h0 (Ev.pos h (Ev.val ht (Ev.bind hxe (Ev.pos hb (Ev.pos (by omega) (by rw [w1]; exact h2)))))))), h3, h4⟩
      · obtain ⟨r, h2, h3, h4⟩ := parse_loop dir l hl hx d out (i + 1) (by omega) (by omega) (by omega) (by omega) hr
        exact ⟨r, Ev.step (fun k => rfl) (Ev.pos h (Ev.pos h0 (Ev.pos h (Ev.val ht (Ev.bind hxe (Ev.neg hb (by rw [w1]; exact h2))))))), h3, h4⟩
    · exact ⟨out, Ev.step (fun k => rfl) (Ev.neg h (Ev.now out)), by omega, hr⟩
theorem parse_tot (s dir : ByteArray) (hs : s.size ≤ 1000) : ∃ r, Ev (fun k => ignore_Parse.f k s dir) r ∧ r.length ≤ 1000 ∧ ∀ x, x ∈ r → x.f1 = dir := by
  unfold ignore_Parse.f
  obtain ⟨b, hb⟩ := folder_tot dir
  cases b with
  | true =>
    obtain ⟨l, hl, h1, h2⟩ := lines_tot s hs
    obtain ⟨r, h3, h4, h5⟩ := parse_loop dir l h1 h2 l.length [] 0 (by omega) (by omega) (by omega) (by simp) (fun r h => by simp at h)
    exact ⟨r, Ev.bind hb (Ev.pos rfl (Ev.bind hl h3)), by omega, h5⟩
  | false => exact ⟨[], Ev.bind hb (Ev.neg (by decide) (Ev.now [])), by simp, fun x h => by simp at h⟩

/-! ### what lies within a folder -/
/-- A path lies within a folder. -/
def within (d p : ByteArray) : Prop := (d.size = 0 ∧ p.size ≠ 0) ∨ (d.size ≠ 0 ∧ d.size + 1 < p.size ∧ bt p d.size = 47 ∧ (p.extract 0 d.size).toList = d.toList)
instance (d p : ByteArray) : Decidable (within d p) := by unfold within; exact inferInstance
theorem toList_empty (s : ByteArray) : s.toList = ([] : List UInt8) ↔ s.size = 0 := by
  rw [Lib.toList_data]
  have e : s.size = s.data.toList.length := by simp
  rw [e]
  exact List.length_eq_zero_iff.symm
theorem refWithin_val (d p : ByteArray) (hd : d.size ≤ 140737488351232) : graftageref06_Within.f d p = some (decide (within d p)) := by
  unfold graftageref06_Within.f within
  have w1 : wrap64 ((d.size : Int) + 1) = (d.size : Int) + 1 := wrap_in (by omega) (by omega)
  by_cases h : d.toList = ([] : List UInt8)
  · have hd0 := (toList_empty d).mp h
    rw [if_pos h]
    by_cases hp : p.toList = ([] : List UInt8)
    · have := (toList_empty p).mp hp
      rw [hp]; simp [this, hd0]
    · have : ¬ p.size = 0 := fun e => hp ((toList_empty p).mpr e)
      simp [this, hp, hd0]
  · have h0 : ¬ d.size = 0 := fun e => h ((toList_empty d).mpr e)
    rw [if_neg h, w1]
    by_cases h1 : (p.size : Int) > (d.size : Int) + 1
    · rw [if_pos h1, if_pos (by omega), if_pos (by omega)]
      by_cases h2 : (p.extract 0 d.size).toList = d.toList
      · rw [if_pos h2, if_pos (by omega)]
        have : d.size + 1 < p.size := by omega
        by_cases h3 : bt p d.size = 47 <;> simp [this, h0, h2, h3]
      · rw [if_neg h2]; simp [h0, h2]
    · rw [if_neg h1]
      have : ¬ d.size + 1 < p.size := by omega
      simp [h0, this]
theorem pathWithin_val (d p : ByteArray) (hd : d.size ≤ 140737488351232) : path_Within.f d p = some (decide (within d p)) := by
  unfold path_Within.f within
  have w1 : wrap64 ((d.size : Int) + 1) = (d.size : Int) + 1 := wrap_in (by omega) (by omega)
  by_cases h : d.toList = ([] : List UInt8)
  · have hd0 := (toList_empty d).mp h
    rw [if_pos h]
    by_cases hp : p.toList = ([] : List UInt8)
    · have := (toList_empty p).mp hp
      rw [hp]; simp [this, hd0]
    · have : ¬ p.size = 0 := fun e => hp ((toList_empty p).mpr e)
      simp [this, hp, hd0]
  · have h0 : ¬ d.size = 0 := fun e => h ((toList_empty d).mpr e)
    rw [if_neg h, w1]
    by_cases h1 : (p.size : Int) > (d.size : Int) + 1
    · rw [if_pos h1, if_pos (by omega), if_pos (by omega)]
      have : d.size + 1 < p.size := by omega
      by_cases h2 : bt p d.size = 47
      · rw [if_pos h2, if_pos (by omega)]
        by_cases h3 : (p.extract 0 d.size).toList = d.toList <;> simp [this, h0, h2, h3]
      · rw [if_neg h2]; simp [h0, h2]
    · rw [if_neg h1]
      have : ¬ d.size + 1 < p.size := by omega
      simp [h0, this]
theorem extract_extract (p : ByteArray) (i j : Nat) (h : j ≤ i) : (p.extract 0 i).extract 0 j = p.extract 0 j := by
  rw [ByteArray.extract_extract]
  congr 1 <;> omega
theorem bt_extract (p : ByteArray) (i : Nat) (j : Int) (h0 : 0 ≤ j) (h : j < i) (hi : i ≤ p.size) : bt (p.extract 0 i) j = bt p j := by
  unfold bt
  have h1 : j.toNat < (p.extract 0 i).size := by rw [ByteArray.size_extract]; omega
  have h2 : j.toNat < p.size := by omega
  rw [dif_pos h1, dif_pos h2]
  congr 2
  rw [ByteArray.getElem_extract]
  congr 1
  omega
theorem within_pre (d p : ByteArray) (i : Nat) (hi : i < p.size) (h : within d (p.extract 0 i)) : within d p := by
  have hs : (p.extract 0 i).size = i := by rw [ByteArray.size_extract]; omega
  unfold within at h ⊢
  rw [hs] at h
  rcases h with ⟨h0, h1⟩ | ⟨h0, h1, h2, h3⟩
  · exact .inl ⟨h0, by omega⟩
  · refine .inr ⟨h0, ?_⟩
    rw [bt_extract p i _ (by omega) (by omega) (by omega)] at h2
    rw [extract_extract p i _ (by omega)] at h3
    exact ⟨by omega, h2, h3⟩

/-! ### nothing outside is matched -/
theorem has_out (r : S40) (p : ByteArray) (fo : Bool) (hd : r.f1.size ≤ 140737488351232) (h : ¬ within r.f1 p) : Ev (fun k => ignore_Has.f k r.f0 r.f1 r.f2 r.f3 r.f4 p fo) false := by
  have j : ∀ b, b = true → Ev (fun k => ignore_Has.j0 k p b r.f0 r.f1 r.f2 r.f3 r.f4) false := fun b hb => by
    subst hb
    exact Ev.step (f := fun _ => some false) (fun k => by simp only [ignore_Has.j0, if_true]) (Ev.now false)
  unfold ignore_Has.f
  obtain ⟨a, ha⟩ := is_tot p
  cases a with
  | false => exact Ev.bind ha (Ev.neg (by decide) (j true rfl))
  | true =>
    obtain ⟨b, hb⟩ := folder_tot r.f1
    cases b with
    | false => exact Ev.bind ha (Ev.pos rfl (Ev.bind hb (Ev.neg (by decide) (j true rfl))))
    | true => exact Ev.bind ha (Ev.pos rfl (Ev.bind hb (Ev.pos rfl (Ev.val (pathWithin_val r.f1 p hd) (Ev.neg (by simpa using h) (j true rfl))))))
theorem rd_mem {l : List S40} {i : Int} (h0 : 0 ≤ i) (h1 : i < l.length) : rd_T40 l i ∈ l := by
  unfold rd_T40
  rw [List.getD_eq_getElem?_getD, List.getElem?_eq_getElem (by omega)]
  exact List.getElem_mem _
theorem last_out (l : List S40) (p dir : ByteArray) (fo : Bool) (hl : l.length ≤ 1000) (hd : dir.size ≤ 140737488351232) (hr : ∀ r, r ∈ l → r.f1 = dir) (h : ¬ within dir p) : ∀ (d : Nat) (i : Int), i < l.length → -1 ≤ i → i + 1 ≤ d → Ev (fun k => ignore_Last.l0 k l p fo i) (-1)
  | 0, i, h1, h2, hd => Ev.step (fun k => rfl) (Ev.neg (by omega) (Ev.now (-1)))
  | d + 1, i, h1, h2, hd => by
    by_cases hi : i ≥ 0
    · have hm := rd_mem hi h1
      have hH := has_out (rd_T40 l i) p fo (by rw [hr _ hm]; assumption) (by rw [hr _ hm]; exact h)
      have ih := last_out l p dir fo hl (by assumption) hr h d (i - 1) (by omega) (by omega) (by omega)
      exact Ev.step (fun k => rfl) (Ev.pos hi (Ev.pos hi (Ev.pos h1 (Ev.bind hH (Ev.neg (by decide) (by rw [wrap_in (by omega) (by omega)]; exact ih))))))
    · exact Ev.step (fun k => rfl) (Ev.neg hi (Ev.now (-1)))
theorem last_outside (l : List S40) (p dir : ByteArray) (fo : Bool) (hl : l.length ≤ 1000) (hd : dir.size ≤ 140737488351232) (hr : ∀ r, r ∈ l → r.f1 = dir) (h : ¬ within dir p) : Ev (fun k => ignore_Last.f k l p fo) (-1) := by
  unfold ignore_Last.f
  rw [wrap_in (by omega) (by omega)]
  exact last_out l p dir fo hl hd hr h l.length _ (by omega) (by omega) (by omega)
theorem says_outside (l : List S40) (p dir : ByteArray) (fo : Bool) (hl : l.length ≤ 1000) (hd : dir.size ≤ 140737488351232) (hr : ∀ r, r ∈ l → r.f1 = dir) (h : ¬ within dir p) : Ev (fun k => ignore_Is.says k l p fo) false := by
  unfold ignore_Is.says
  exact Ev.bind (last_outside l p dir fo hl hd hr h) (Ev.neg (by decide) (Ev.now false))
theorem dirs_mem {p q : ByteArray} {n : Nat} (h : q ∈ ignore_Is.dirs p n) : ∃ i : Nat, i < n ∧ q = p.extract 0 i := by
  unfold ignore_Is.dirs at h
  obtain ⟨i, hi, rfl⟩ := List.mem_map.mp h
  exact ⟨i, List.mem_range.mp (List.mem_filter.mp hi).1, rfl⟩
theorem scan_false (l : List S40) : ∀ (qs : List ByteArray), (∀ q, q ∈ qs → Ev (fun k => ignore_Is.says k l q true) false) → Ev (fun k => ignore_Is.scan k l qs) false
  | [], _ => Ev.now false
  | q :: qs, h => Ev.bind (f := fun k b => if b = true then some true else ignore_Is.scan k l qs) (h q List.mem_cons_self) (Ev.neg (by decide) (scan_false l qs (fun q' h' => h q' (List.mem_cons_of_mem _ h'))))
/-- From some number of rounds on, each of finitely many is told. -/
theorem Ev.all {α β : Type} {g : Nat → α → Option β} : ∀ (qs : List α), (∀ q, q ∈ qs → ∃ b, Ev (fun k => g k q) b) → ∃ K, ∀ k, K ≤ k → ∀ q, q ∈ qs → (g k q).isSome = true
  | [], _ => ⟨0, fun _ _ q h => by simp at h⟩
  | q :: qs, h => by
    obtain ⟨b, K1, h1⟩ := h q List.mem_cons_self
    obtain ⟨K2, h2⟩ := Ev.all qs (fun q' h' => h q' (List.mem_cons_of_mem _ h'))
    refine ⟨max K1 K2, fun k hk q' hq => ?_⟩
    rcases List.mem_cons.mp hq with rfl | hq
    · have h := h1 k (by omega)
      simp only at h
      rw [h]; rfl
    · exact h2 k (by omega) q' hq
theorem Ev.posK {α : Type} {c : Nat → Prop} [∀ k, Decidable (c k)] {f g : Nat → Option α} {r : α} (h : ∃ K, ∀ k, K ≤ k → c k) (h1 : Ev f r) : Ev (fun k => if c k then f k else g k) r := by
  obtain ⟨K1, h⟩ := h
  obtain ⟨K2, h1⟩ := h1
  exact ⟨max K1 K2, fun k hk => by
    show (if c k then f k else g k) = some r
    rw [if_pos (h k (by omega))]; exact h1 k (by omega)⟩
theorem isIgnored_outside (l : List S40) (p dir : ByteArray) (fo : Bool) (hp : p.size ≤ 1000000) (hl : l.length ≤ 1000) (hd : dir.size ≤ 140737488351232) (hr : ∀ r, r ∈ l → r.f1 = dir) (h : ¬ within dir p) : Ev (fun k => ignore_Is.f k l p fo) false := by
  have hs : ∀ q, q ∈ ignore_Is.dirs p p.size → Ev (fun k => ignore_Is.says k l q true) false := fun q hq => by
    obtain ⟨i, hi, rfl⟩ := dirs_mem hq
    exact says_outside l _ dir true hl hd hr (fun hw => h (within_pre dir p i hi hw))
  obtain ⟨K, hK⟩ := Ev.all (g := fun k q => ignore_Is.says k l q true) _ (fun q hq => ⟨false, hs q hq⟩)
  unfold ignore_Is.f
  obtain ⟨a, ha⟩ := is_tot p
  refine Ev.posK ⟨K, fun k hk => ⟨hp, hK k hk⟩⟩ ?_
  cases a with
  | false => exact Ev.bind ha (Ev.neg (by decide) (Ev.now false))
  | true => exact Ev.bind ha (Ev.pos rfl (Ev.bind (scan_false l _ hs) (Ev.neg (by decide) (says_outside l p dir fo hl hd hr h))))
/-- **The pure statement of IgnoreElsewhere.** -/
theorem elsewhere_pure (a0 a1 a2 : ByteArray) (h1 : a1.size ≤ 140737488351232) : ∃ k, graftagelaw30_IgnoreElsewhere.f k a0 a1 a2 = some true := by
  refine Ev.rounds (g := fun k => graftagelaw30_IgnoreElsewhere.f k a0 a1 a2) ?_
  have e : ∀ b k, graftagelaw30_IgnoreElsewhere.j0 (k + 1) a0 a1 a2 b = if b = true then ((graftagelaw30_lives.f k).bind fun t209 => (some t209)) else ((ignore_Parse.f k a0 a1).bind fun t210 => ((ignore_Last.f k t210 a2 true).bind fun t213 => (if t213 = (-1) then ((ignore_Is.f k t210 a2 false).bind fun t214 => (if t214 = true then (some false) else ((graftagelaw30_lives.f k).bind fun t215 => (some t215)))) else (some false)))) := fun b k => by simp only [graftagelaw30_IgnoreElsewhere.j0]
  have jt : ∀ b, b = true → Ev (fun k => graftagelaw30_IgnoreElsewhere.j0 k a0 a1 a2 b) true := fun b hb => Ev.step (e b) (Ev.pos hb (Ev.bind lives_ev (Ev.now true)))
  unfold graftagelaw30_IgnoreElsewhere.f
  by_cases c1 : (a0.size : Int) > 300
  · exact Ev.pos c1 (jt true rfl)
  by_cases c2 : (a2.size : Int) > 200
  · exact Ev.neg c1 (Ev.pos c2 (jt true rfl))
  refine Ev.neg c1 (Ev.neg c2 (Ev.val (refWithin_val a1 a2 h1) ?_))
  by_cases c3 : within a1 a2
  · exact jt _ (by simpa using c3)
  · obtain ⟨l, hl, hlen, hr⟩ := parse_tot a0 a1 (by omega)
    exact Ev.step (e _) (Ev.neg (by simpa using c3) (Ev.bind hl (Ev.bind (last_outside l a2 a1 true hlen h1 hr c3) (Ev.pos rfl (Ev.bind (isIgnored_outside l a2 a1 false (by omega) hlen h1 hr c3) (Ev.neg (by decide) (Ev.bind lives_ev (Ev.now true))))))))
end Go.Proofs.YtabimfpjdcggaaaDoor.X
