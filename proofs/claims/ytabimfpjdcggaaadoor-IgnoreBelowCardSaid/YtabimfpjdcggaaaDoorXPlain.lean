/- Plain facts on texts: a text's parts between slashes; what a path is. No program in sight but for the print's own words. -/
import Derived.Test.YtabimfpjdcggaaaDoorXBase
import Derived.Lib.SplitLaws
import Derived.Lib.Split
namespace Go.Proofs.YtabimfpjdcggaaaDoor.XPlain
open Go.RowKit Go.Proofs.YtabimfpjdcggaaaDoorW.PrintWords

theorem size_list (s : ByteArray) : s.size = s.data.toList.length := by simp
theorem bt_list (s : ByteArray) (i : Nat) (h : i < s.data.toList.length) : bt s (i : Int) = ((s.data.toList[i]).toNat : Int) := by
  have h2 : i < s.size := by rw [size_list]; exact h
  unfold bt
  rw [dif_pos (by simpa using h2)]
  simp
  rfl
theorem bt_ge (s : ByteArray) (i : Int) (h : ¬ i.toNat < s.size) : bt s i = 0 := by unfold bt; rw [dif_neg h]

/-! ### the parts of a text -/
def comps : List UInt8 → List (List UInt8)
  | [] => [[]]
  | c :: l => if c = 47 then [] :: comps l else match comps l with
    | [] => [[c]]
    | x :: xs => (c :: x) :: xs
theorem comps_ne : ∀ l, comps l ≠ []
  | [] => by simp [comps]
  | c :: l => by
    unfold comps
    split
    · simp
    · split <;> simp
theorem comps_cons (c : UInt8) (l : List UInt8) (h : c ≠ 47) : ∃ x xs, comps l = x :: xs ∧ comps (c :: l) = (c :: x) :: xs := by
  cases hc : comps l with
  | nil => exact absurd hc (comps_ne l)
  | cons x xs => exact ⟨x, xs, rfl, by simp [comps, h, hc]⟩
theorem comps_slash (l : List UInt8) : comps (47 :: l) = [] :: comps l := by simp [comps]
theorem comps_plain : ∀ u : List UInt8, 47 ∉ u → comps u = [u]
  | [], _ => rfl
  | c :: u, h => by
    have hc : c ≠ 47 := fun e => h (by rw [e]; exact List.mem_cons_self)
    obtain ⟨x, xs, h1, h2⟩ := comps_cons c u hc
    rw [comps_plain u (fun hm => h (List.mem_cons_of_mem _ hm))] at h1
    injection h1 with h1 h3
    rw [h2, ← h1, ← h3]
theorem comps_app : ∀ (u v : List UInt8), 47 ∉ u → comps (u ++ 47 :: v) = u :: comps v
  | [], v, _ => comps_slash v
  | c :: u, v, h => by
    have hc : c ≠ 47 := fun e => h (by rw [e]; exact List.mem_cons_self)
    obtain ⟨x, xs, h1, h2⟩ := comps_cons c (u ++ 47 :: v) hc
    rw [comps_app u v (fun hm => h (List.mem_cons_of_mem _ hm))] at h1
    injection h1 with h1 h3
    rw [List.cons_append, h2, ← h1, ← h3]
theorem comps_two : ∀ (u v : List UInt8), comps (u ++ 47 :: v) = comps u ++ comps v
  | [], v => by rw [List.nil_append, comps_slash]; rfl
  | c :: u, v => by
    by_cases hc : c = 47
    · subst hc
      rw [List.cons_append, comps_slash, comps_slash, comps_two u v, List.cons_append]
    · obtain ⟨x, xs, h1, h2⟩ := comps_cons c u hc
      obtain ⟨y, ys, h3, h4⟩ := comps_cons c (u ++ 47 :: v) hc
      rw [comps_two u v, h1, List.cons_append] at h3
      injection h3 with h3 h5
      rw [List.cons_append, h4, h2, ← h3, ← h5, List.cons_append]
theorem comps_free : ∀ (l x : List UInt8), x ∈ comps l → 47 ∉ x
  | [], x, h => by simp [comps] at h; rw [h]; simp
  | c :: l, x, h => by
    by_cases hc : c = 47
    · subst hc
      rw [comps_slash] at h
      rcases List.mem_cons.mp h with h | h
      · rw [h]; simp
      · exact comps_free l x h
    · obtain ⟨y, ys, h1, h2⟩ := comps_cons c l hc
      rw [h2] at h
      rcases List.mem_cons.mp h with h | h
      · rw [h]
        have := comps_free l y (by rw [h1]; exact List.mem_cons_self)
        simp only [List.mem_cons, not_or]
        exact ⟨fun e => hc e.symm, this⟩
      · exact comps_free l x (by rw [h1]; exact List.mem_cons_of_mem _ h)
theorem comps_length : ∀ l : List UInt8, (comps l).length = l.count 47 + 1
  | [] => rfl
  | c :: l => by
    by_cases hc : c = 47
    · subst hc
      rw [comps_slash, List.length_cons, comps_length l]
      simp
    · obtain ⟨y, ys, h1, h2⟩ := comps_cons c l hc
      have := comps_length l
      rw [h1] at this
      rw [h2, List.length_cons, List.count_cons_of_ne (fun e => hc e)]
      simpa using this
theorem part_slash : ∀ l : List UInt8, 47 ∉ l ∨ ∃ u v, l = u ++ 47 :: v ∧ 47 ∉ u
  | [] => .inl (by simp)
  | c :: l => by
    by_cases hc : c = 47
    · exact .inr ⟨[], l, by rw [hc]; rfl, by simp⟩
    · rcases part_slash l with h | ⟨u, v, rfl, hu⟩
      · exact .inl (by simp only [List.mem_cons, not_or]; exact ⟨fun e => hc e.symm, h⟩)
      · exact .inr ⟨c :: u, v, rfl, by simp only [List.mem_cons, not_or]; exact ⟨fun e => hc e.symm, hu⟩⟩
theorem index_none : ∀ (l : List UInt8) (c : UInt8), c ∉ l → Lib.indexByte l c = -1
  | [], _, _ => rfl
  | b :: l, c, h => by
    have h1 : b ≠ c := fun e => h (by rw [e]; exact List.mem_cons_self)
    have h2 := index_none l c (fun hm => h (List.mem_cons_of_mem _ hm))
    unfold Lib.indexByte
    rw [h2]
    simp [h1]
theorem index_at : ∀ (u v : List UInt8) (c : UInt8), c ∉ u → Lib.indexByte (u ++ c :: v) c = u.length
  | [], v, c, _ => by unfold Lib.indexByte; simp
  | b :: u, v, c, h => by
    have h1 : b ≠ c := fun e => h (by rw [e]; exact List.mem_cons_self)
    have h2 := index_at u v c (fun hm => h (List.mem_cons_of_mem _ hm))
    rw [List.cons_append]
    unfold Lib.indexByte
    rw [h2]
    simp [h1]
    try omega
theorem splitK_comps : ∀ (n : Nat) (l : List UInt8), l.length ≤ n → Lib.splitK [47] 0 (l.count 47) l = comps l
  | n, l, hn => by
    rcases part_slash l with h | ⟨u, v, rfl, hu⟩
    · rw [List.count_eq_zero_of_not_mem h, comps_plain l h]; rfl
    · have hc : (u ++ 47 :: v).count 47 = v.count 47 + 1 := by
        rw [List.count_append, List.count_eq_zero_of_not_mem hu]; simp
      rw [hc, comps_app u v hu]
      have hi : Lib.index (u ++ 47 :: v) [47] = (u.length : Int) := by rw [Lib.index_one, index_at u v 47 hu]
      unfold Lib.splitK
      rw [hi, if_neg (by simp)]
      have e1 : (((u.length : Nat) : Int).toNat + 0) = u.length := by simp
      have e2 : (((u.length : Nat) : Int).toNat + [(47 : UInt8)].length) = u.length + 1 := by simp
      rw [e1, e2, List.take_left, ← List.drop_drop, List.drop_left]
      match n with
      | 0 => simp at hn
      | n + 1 =>
        rw [List.drop_one, List.tail_cons, splitK_comps n v (by simp at hn; omega)]
/-- What strings.Split gives at a slash. -/
def splits (s : ByteArray) : List ByteArray := Lib.splitB ⟨#[47]⟩ 0 (Lib.countB s ⟨#[47]⟩) s
theorem splits_list (s : ByteArray) : (splits s).map (·.data.toList) = comps s.data.toList := by
  unfold splits
  rw [Lib.splitB_data]
  have : Lib.countB s ⟨#[47]⟩ = s.data.toList.count 47 := Lib.count_one 47 s.data.toList
  rw [this]
  exact splitK_comps _ _ (Nat.le_refl _)
theorem byteArray_list {a b : ByteArray} (h : a.data.toList = b.data.toList) : a = b := by
  cases a; cases b
  simp only [ByteArray.mk.injEq]
  exact Array.toList_inj.mp h
theorem extract_list (s : ByteArray) (i j : Nat) : (s.extract i j).data.toList = (s.data.toList.drop i).take (j - i) := by
  rw [Lib.extract_data]

/-! ### what a path is -/
def partOk (l : List UInt8) : Bool := decide (1 ≤ l.length) && decide (l.length ≤ 64) && !(l == [46]) && !(l == [46, 46]) && !(l == [46, 103, 114, 97, 102, 116]) && l.all (fun c => decide (32 ≤ c.toNat))
def pathOk (l : List UInt8) : Bool := decide (1 ≤ l.length) && decide (l.length ≤ 255) && (comps l).all partOk && decide ((comps l).length ≤ 16)
end Go.Proofs.YtabimfpjdcggaaaDoor.XPlain
