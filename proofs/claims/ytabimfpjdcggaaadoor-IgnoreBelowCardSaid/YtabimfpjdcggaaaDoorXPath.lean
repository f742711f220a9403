/- path.Is and the reference's Is: both tell of a text what 'pathOk' tells. -/
import Derived.Test.YtabimfpjdcggaaaDoorIgEnds
import Derived.Test.YtabimfpjdcggaaaDoorXPlain
namespace Go.Proofs.YtabimfpjdcggaaaDoor.X
open Go.RowKit Go.Proofs.YtabimfpjdcggaaaDoorW.PrintWords Go.Proofs.YtabimfpjdcggaaaDoorW.PrintLast Go.Proofs.YtabimfpjdcggaaaDoorW.PrintMore
open XPlain

theorem drop_cons {l : List UInt8} {i : Nat} (h : i < l.length) : l.drop i = l[i] :: l.drop (i + 1) := List.drop_eq_getElem_cons h
theorem bt_drop (s : ByteArray) (i : Nat) (h : i < s.size) : ∃ c : UInt8, s.data.toList.drop i = c :: s.data.toList.drop (i + 1) ∧ bt s (i : Int) = (c.toNat : Int) := by
  have h2 : i < s.data.toList.length := by rw [← size_list]; exact h
  exact ⟨_, drop_cons h2, bt_list s i h2⟩
theorem part_loop_val (s : ByteArray) (hs : s.size ≤ 1000000) : ∀ (d i : Nat), i ≤ s.size → s.size - i ≤ d → Ev (fun k => path_part.l0 k s (s.size : Int) (i : Int)) ((s.data.toList.drop i).all (fun c => decide (32 ≤ c.toNat)))
  | 0, i, h1, hd => by
    have : s.data.toList.drop i = [] := List.drop_eq_nil_of_le (by rw [← size_list]; omega)
    rw [this]
    exact Ev.step (fun k => rfl) (Ev.neg (by omega) (Ev.now true))
  | d + 1, i, h1, hd => by
    by_cases h : i < s.size
    · obtain ⟨c, e, hb⟩ := bt_drop s i h
      have ih := part_loop_val s hs d (i + 1) (by omega) (by omega)
      rw [e, List.all_cons]
      by_cases hc : bt s (i : Int) < 32
      · have : decide (32 ≤ c.toNat) = false := decide_eq_false (by omega)
        rw [this, Bool.false_and]
        exact Ev.step (fun k => rfl) (Ev.pos (by omega) (Ev.pos (by omega) (Ev.pos (by omega) (Ev.pos hc (Ev.now false)))))
      · have : decide (32 ≤ c.toNat) = true := decide_eq_true (by omega)
        rw [this, Bool.true_and]
        exact Ev.step (fun k => rfl) (Ev.pos (by omega) (Ev.pos (by omega) (Ev.pos (by omega) (Ev.neg hc (by rw [wrap_in (by omega) (by omega)]; exact ih)))))
    · have : s.data.toList.drop i = [] := List.drop_eq_nil_of_le (by rw [← size_list]; omega)
      rw [this]
      exact Ev.step (fun k => rfl) (Ev.neg (by omega) (Ev.now true))
theorem part_j_val (s : ByteArray) (b : Bool) (hs : b = false → s.size ≤ 1000000) : Ev (fun k => path_part.j0 k s b) (!b && s.data.toList.all (fun c => decide (32 ≤ c.toNat))) := by
  have e : ∀ k, path_part.j0 (k + 1) s b = if b = true then some false else path_part.l0 k s (s.size : Int) 0 := fun k => by simp only [path_part.j0]
  cases b with
  | true => exact Ev.step e (Ev.pos rfl (Ev.now false))
  | false =>
    have := part_loop_val s (hs rfl) s.size 0 (by omega) (by omega)
    exact Ev.step e (Ev.neg (by decide) this)
theorem part_val (s : ByteArray) : Ev (fun k => path_part.f k s) (partOk s.data.toList) := by
  unfold path_part.f partOk
  have el := size_list s
  by_cases h1 : (s.size : Int) < 1
  · have : decide (1 ≤ s.data.toList.length) = false := decide_eq_false (by omega)
    rw [this]
    have := part_j_val s true (by simp)
    exact Ev.pos h1 (by simpa using this)
  have d1 : decide (1 ≤ s.data.toList.length) = true := decide_eq_true (by omega)
  by_cases h2 : (s.size : Int) > 64
  · have : decide (s.data.toList.length ≤ 64) = false := decide_eq_false (by omega)
    rw [this]
    have := part_j_val s true (by simp)
    exact Ev.neg h1 (Ev.pos h2 (by simpa using this))
  have d2 : decide (s.data.toList.length ≤ 64) = true := decide_eq_true (by omega)
  rw [d1, d2]
  rw [Lib.toList_data]
  by_cases h3 : s.data.toList = ([46] : List UInt8)
  · have := part_j_val s true (by simp)
    exact Ev.neg h1 (Ev.neg h2 (Ev.pos h3 (by rw [h3]; simpa using this)))
  by_cases h4 : s.data.toList = ([46, 46] : List UInt8)
  · have := part_j_val s true (by simp)
    exact Ev.neg h1 (Ev.neg h2 (Ev.neg h3 (Ev.pos h4 (by rw [h4]; simpa using this))))
  have := part_j_val s (s.data.toList == ([46, 103, 114, 97, 102, 116] : List UInt8)) (fun _ => by omega)
  refine Ev.neg h1 (Ev.neg h2 (Ev.neg h3 (Ev.neg h4 ?_)))
  have e3 : (s.data.toList == ([46] : List UInt8)) = false := beq_eq_false_iff_ne.mpr h3
  have e4 : (s.data.toList == ([46, 46] : List UInt8)) = false := beq_eq_false_iff_ne.mpr h4
  rw [e3, e4]
  simpa using this
theorem is_loop_val (l : List ByteArray) (hl : l.length ≤ 1000000) : ∀ (d i : Nat), i ≤ l.length → l.length - i ≤ d → Ev (fun k => path_Is.l0 k l l (l.length : Int) (i : Int)) (((l.drop i).map (·.data.toList)).all partOk && decide (l.length ≤ 16))
  | 0, i, h1, hd => by
    have : l.drop i = [] := List.drop_eq_nil_of_le (by omega)
    rw [this]
    refine Ev.step (fun k => rfl) (Ev.neg (by omega) ?_)
    have e : decide (((l.length : Nat) : Int) ≤ 16) = decide (l.length ≤ 16) := by by_cases h : l.length ≤ 16 <;> simp [h] <;> omega
    rw [e]
    simpa using Ev.now (decide (l.length ≤ 16))
  | d + 1, i, h1, hd => by
    by_cases h : i < l.length
    · have ih := is_loop_val l hl d (i + 1) (by omega) (by omega)
      have er : rdOf ByteArray.empty l (i : Int) = l[i] := by unfold rdOf; rw [Int.toNat_natCast, List.getD_eq_getElem?_getD, List.getElem?_eq_getElem h]; rfl
      rw [List.drop_eq_getElem_cons h, List.map_cons, List.all_cons]
      have hp := part_val l[i]
      rw [← er] at hp ⊢
      cases hb : partOk (rdOf ByteArray.empty l (i : Int)).data.toList with
      | true =>
        rw [hb] at hp
        rw [Bool.true_and]
        exact Ev.step (fun k => rfl) (Ev.pos (by omega) (Ev.pos (by omega) (Ev.pos (by omega) (Ev.bind hp (Ev.pos rfl (by rw [wrap_in (by omega) (by omega)]; exact ih))))))
      | false =>
        rw [hb] at hp
        rw [Bool.false_and, Bool.false_and]
        exact Ev.step (fun k => rfl) (Ev.pos (by omega) (Ev.pos (by omega) (Ev.pos (by omega) (Ev.bind hp (Ev.neg (by decide) (Ev.now false))))))
    · have : l.drop i = [] := List.drop_eq_nil_of_le (by omega)
      rw [this]
      refine Ev.step (fun k => rfl) (Ev.neg (by omega) ?_)
      have e : decide (((l.length : Nat) : Int) ≤ 16) = decide (l.length ≤ 16) := by by_cases h : l.length ≤ 16 <;> simp [h] <;> omega
      rw [e]
      simpa using Ev.now (decide (l.length ≤ 16))
theorem splits_length (s : ByteArray) : (splits s).length = (comps s.data.toList).length := by
  rw [← splits_list, List.length_map]
theorem is_val (s : ByteArray) : Ev (fun k => path_Is.f k s) (pathOk s.data.toList) := by
  unfold path_Is.f pathOk
  have el := size_list s
  have e : ∀ b k, path_Is.j0 (k + 1) s b = if b = true then some false else ((strings_Split.f s (⟨#[47]⟩ : ByteArray)).bind fun t => path_Is.l0 k t t (t.length : Int) 0) := fun b k => by simp only [path_Is.j0]
  by_cases h1 : s.toList = ([] : List UInt8)
  · have h2 := h1
    rw [Lib.toList_data] at h2
    rw [h2]
    exact Ev.pos h1 (Ev.step (e true) (Ev.pos rfl (Ev.now false)))
  have d1 : decide (1 ≤ s.data.toList.length) = true := decide_eq_true (by
    rw [Lib.toList_data] at h1
    cases hq : s.data.toList with
    | nil => exact absurd hq h1
    | cons a l => simp)
  rw [d1]
  refine Ev.neg h1 ?_
  by_cases h2 : (s.size : Int) > 255
  · have e1 : decide ((s.size : Int) > 255) = true := decide_eq_true h2
    have e2 : decide (s.data.toList.length ≤ 255) = false := decide_eq_false (by omega)
    rw [e1, e2]
    exact Ev.step (e true) (Ev.pos rfl (Ev.now false))
  · have e1 : decide ((s.size : Int) > 255) = false := decide_eq_false h2
    have e2 : decide (s.data.toList.length ≤ 255) = true := decide_eq_true (by omega)
    rw [e1, e2, ← splits_list]
    have hl := split_len s
    have h3 := is_loop_val (splits s) (by unfold splits; omega) (splits s).length 0 (by omega) (by omega)
    refine Ev.step (e false) (Ev.neg (by decide) (Ev.val (f := fun k t => path_Is.l0 k t t (t.length : Int) 0) (split_val s (by omega)) ?_))
    rw [List.drop_zero] at h3
    rw [List.length_map, Bool.true_and, Bool.true_and]
    exact h3

/-! ### the reference's -/
theorem refPart_loop_val (s : ByteArray) (hs : s.size ≤ 1000000) : ∀ (d i : Nat), i ≤ s.size → s.size - i ≤ d → Ev (fun k => graftageref06_part.l0 k s (i : Int)) ((s.data.toList.drop i).all (fun c => decide (32 ≤ c.toNat) && !(c == 47)))
  | 0, i, h1, hd => by
    have : s.data.toList.drop i = [] := List.drop_eq_nil_of_le (by rw [← size_list]; omega)
    rw [this]
    exact Ev.step (fun k => rfl) (Ev.neg (by omega) (Ev.now true))
  | d + 1, i, h1, hd => by
    by_cases h : i < s.size
    · obtain ⟨c, e, hb⟩ := bt_drop s i h
      have ih := refPart_loop_val s hs d (i + 1) (by omega) (by omega)
      rw [e, List.all_cons]
      by_cases hc : bt s (i : Int) < 32
      · have : decide (32 ≤ c.toNat) = false := decide_eq_false (by omega)
        rw [this, Bool.false_and, Bool.false_and]
        exact Ev.step (fun k => rfl) (Ev.pos (by omega) (Ev.pos (by omega) (Ev.pos hc (Ev.now false))))
      · have : decide (32 ≤ c.toNat) = true := decide_eq_true (by omega)
        rw [this, Bool.true_and]
        by_cases h47 : bt s (i : Int) = 47
        · have : c = 47 := by
            apply UInt8.toNat_inj.mp
            show c.toNat = 47
            omega
          rw [this]
          exact Ev.step (fun k => rfl) (Ev.pos (by omega) (Ev.pos (by omega) (Ev.neg hc (Ev.pos h47 (Ev.now false)))))
        · have : (c == 47) = false := beq_eq_false_iff_ne.mpr (fun e => h47 (by rw [hb, e]; rfl))
          rw [this, Bool.not_false, Bool.true_and]
          exact Ev.step (fun k => rfl) (Ev.pos (by omega) (Ev.pos (by omega) (Ev.neg hc (Ev.neg h47 (by rw [wrap_in (by omega) (by omega)]; exact ih)))))
    · have : s.data.toList.drop i = [] := List.drop_eq_nil_of_le (by rw [← size_list]; omega)
      rw [this]
      exact Ev.step (fun k => rfl) (Ev.neg (by omega) (Ev.now true))
theorem all_free {l : List UInt8} (h : 47 ∉ l) : l.all (fun c => decide (32 ≤ c.toNat) && !(c == 47)) = l.all (fun c => decide (32 ≤ c.toNat)) := by
  induction l with
  | nil => rfl
  | cons c l ih =>
    simp only [List.mem_cons, not_or] at h
    rw [List.all_cons, List.all_cons, ih h.2]
    have : (c == 47) = false := beq_eq_false_iff_ne.mpr (fun e => h.1 e.symm)
    rw [this, Bool.not_false, Bool.and_true]
theorem refPart_j_val (s : ByteArray) (b : Bool) (hf : 47 ∉ s.data.toList) (hs : b = false → s.size ≤ 1000000) : Ev (fun k => graftageref06_part.j0 k s b) (!b && s.data.toList.all (fun c => decide (32 ≤ c.toNat))) := by
  have e : ∀ k, graftageref06_part.j0 (k + 1) s b = if b = true then some false else graftageref06_part.l0 k s 0 := fun k => by simp only [graftageref06_part.j0]
  cases b with
  | true => exact Ev.step e (Ev.pos rfl (Ev.now false))
  | false =>
    have := refPart_loop_val s (hs rfl) s.size 0 (by omega) (by omega)
    rw [List.drop_zero, all_free hf] at this
    exact Ev.step e (Ev.neg (by decide) this)
theorem refPart_val (s : ByteArray) (hf : 47 ∉ s.data.toList) : Ev (fun k => graftageref06_part.f k s) (partOk s.data.toList) := by
  unfold graftageref06_part.f partOk
  have el := size_list s
  by_cases h1 : (s.size : Int) < 1
  · have : decide (1 ≤ s.data.toList.length) = false := decide_eq_false (by omega)
    rw [this]
    have := refPart_j_val s true hf (by simp)
    exact Ev.pos h1 (by simpa using this)
  have d1 : decide (1 ≤ s.data.toList.length) = true := decide_eq_true (by omega)
  by_cases h2 : (s.size : Int) > 64
  · have : decide (s.data.toList.length ≤ 64) = false := decide_eq_false (by omega)
    rw [this]
    have := refPart_j_val s true hf (by simp)
    exact Ev.neg h1 (Ev.pos h2 (by simpa using this))
  have d2 : decide (s.data.toList.length ≤ 64) = true := decide_eq_true (by omega)
  rw [d1, d2]
  rw [Lib.toList_data]
  by_cases h3 : s.data.toList = ([46] : List UInt8)
  · have := refPart_j_val s true hf (by simp)
    exact Ev.neg h1 (Ev.neg h2 (Ev.pos h3 (by rw [h3]; simpa using this)))
  by_cases h4 : s.data.toList = ([46, 46] : List UInt8)
  · have := refPart_j_val s true hf (by simp)
    exact Ev.neg h1 (Ev.neg h2 (Ev.neg h3 (Ev.pos h4 (by rw [h4]; simpa using this))))
  have := refPart_j_val s (s.data.toList == ([46, 103, 114, 97, 102, 116] : List UInt8)) hf (fun _ => by omega)
  refine Ev.neg h1 (Ev.neg h2 (Ev.neg h3 (Ev.neg h4 ?_)))
  have e3 : (s.data.toList == ([46] : List UInt8)) = false := beq_eq_false_iff_ne.mpr h3
  have e4 : (s.data.toList == ([46, 46] : List UInt8)) = false := beq_eq_false_iff_ne.mpr h4
  rw [e3, e4]
  simpa using this
/-- The first part of what is left, behind what was met of it. -/
def onto (u : List UInt8) : List (List UInt8) → List (List UInt8)
  | [] => [u]
  | x :: xs => (u ++ x) :: xs
theorem onto_step (u : List UInt8) (c : UInt8) (l : List UInt8) (h : c ≠ 47) : onto u (comps (c :: l)) = onto (u ++ [c]) (comps l) := by
  obtain ⟨x, xs, h1, h2⟩ := comps_cons c l h
  rw [h1, h2]
  simp [onto]
theorem refParts_loop_val (s : ByteArray) (hs : s.size ≤ 1000000) : ∀ (d : Nat) (out : List ByteArray) (a i : Nat), a ≤ i → i ≤ s.size → s.size - i ≤ d → out.length ≤ a →
    ∃ r, Ev (fun k => graftageref06_Parts.l0 k s out (a : Int) (i : Int)) r ∧ r.map (·.data.toList) = out.map (·.data.toList) ++ onto ((s.data.toList.drop a).take (i - a)) (comps (s.data.toList.drop i)) := by
  intro d
  induction d with
  | zero =>
    intro out a i ha h1 hd ho
    refine ⟨out ++ [s.extract a s.size], Ev.step (fun k => rfl) (Ev.neg (by omega) (Ev.pos (by omega) (Ev.pos (by omega) (Ev.pos (by omega) (by rw [Int.toNat_natCast]; exact Ev.now _))))), ?_⟩
    have hi : i = s.size := by omega
    have e : s.data.toList.drop i = [] := List.drop_eq_nil_of_le (by rw [← size_list]; omega)
    rw [e, List.map_append, List.map_cons, List.map_nil, extract_list, hi]
    simp [comps, onto]
  | succ d ih =>
    intro out a i ha h1 hd ho
    by_cases h : i < s.size
    · obtain ⟨c, e, hb⟩ := bt_drop s i h
      have w1 : wrap64 ((i : Int) + 1) = ((i + 1 : Nat) : Int) := by rw [wrap_in (by omega) (by omega)]; omega
      by_cases h47 : bt s (i : Int) = 47
      · have hc : c = 47 := by
          apply UInt8.toNat_inj.mp
          show c.toNat = 47
          omega
        obtain ⟨r, hr, hm⟩ := ih (out ++ [s.extract a i]) (i + 1) (i + 1) (Nat.le_refl _) (by omega) (by omega) (by rw [List.length_append]; simp; omega)
        refine ⟨r, Ev.step (fun k => rfl) (Ev.pos (by omega) (Ev.pos (by omega) (Ev.pos h47 (Ev.pos (by omega) (Ev.pos (by omega) (Ev.pos (by omega) (Ev.pos (by omega) (by rw [w1, Int.toNat_natCast, Int.toNat_natCast]; exact hr)))))))), ?_⟩
        rw [hm, e, hc, comps_slash, List.map_append, List.map_cons, List.map_nil, extract_list, Nat.sub_self, List.take_zero]
        cases hq : comps (s.data.toList.drop (i + 1)) with
        | nil => exact absurd hq (comps_ne _)
        | cons y ys => simp [onto]
      · have hc : c ≠ 47 := fun ec => h47 (by rw [hb, ec]; rfl)
        obtain ⟨r, hr, hm⟩ := ih out a (i + 1) (by omega) (by omega) (by omega) ho
        refine ⟨r, Ev.step (fun k => rfl) (Ev.pos (by omega) (Ev.pos (by omega) (Ev.neg h47 (by rw [w1]; exact hr)))), ?_⟩
        rw [hm, e, onto_step _ _ _ hc]
        congr 2
        have hil : i < s.data.toList.length := by rw [← size_list]; exact h
        have ec : c = s.data.toList[i] := by
          rw [drop_cons hil] at e
          injection e with e _
          exact e.symm
        rw [show i + 1 - a = (i - a) + 1 by omega, List.take_succ_eq_append_getElem (by rw [List.length_drop]; omega), ec]
        congr 2
        rw [List.getElem_drop]
        congr 1
        omega
    · refine ⟨out ++ [s.extract a s.size], Ev.step (fun k => rfl) (Ev.neg (by omega) (Ev.pos (by omega) (Ev.pos (by omega) (Ev.pos (by omega) (by rw [Int.toNat_natCast]; exact Ev.now _))))), ?_⟩
      have hi : i = s.size := by omega
      have e : s.data.toList.drop i = [] := List.drop_eq_nil_of_le (by rw [← size_list]; omega)
      rw [e, List.map_append, List.map_cons, List.map_nil, extract_list, hi]
      simp [comps, onto]
theorem refParts_val (s : ByteArray) (hs : s.size ≤ 1000000) (h0 : s.size ≠ 0) : ∃ r, Ev (fun k => graftageref06_Parts.f k s) r ∧ r.map (·.data.toList) = comps s.data.toList := by
  unfold graftageref06_Parts.f
  obtain ⟨r, hr, hm⟩ := refParts_loop_val s hs s.size [] 0 0 (Nat.le_refl _) (Nat.zero_le _) (by omega) (by simp)
  refine ⟨r, Ev.neg (by rw [Lib.toList_data]; intro e; exact h0 (by rw [size_list, e]; rfl)) hr, ?_⟩
  rw [hm]
  cases hq : comps s.data.toList with
  | nil => exact absurd hq (comps_ne _)
  | cons y ys => simp [onto, hq]
theorem refIs_loop_val (l : List ByteArray) (hl : l.length ≤ 1000000) (hf : ∀ x, x ∈ l → 47 ∉ x.data.toList) : ∀ (d i : Nat), i ≤ l.length → l.length - i ≤ d → Ev (fun k => graftageref06_Is.l0 k l (i : Int)) (((l.drop i).map (·.data.toList)).all partOk)
  | 0, i, h1, hd => by
    have : l.drop i = [] := List.drop_eq_nil_of_le (by omega)
    rw [this]
    exact Ev.step (fun k => rfl) (Ev.neg (by omega) (Ev.now true))
  | d + 1, i, h1, hd => by
    by_cases h : i < l.length
    · have ih := refIs_loop_val l hl hf d (i + 1) (by omega) (by omega)
      have er : rdOf ByteArray.empty l (i : Int) = l[i] := by unfold rdOf; rw [Int.toNat_natCast, List.getD_eq_getElem?_getD, List.getElem?_eq_getElem h]; rfl
      rw [List.drop_eq_getElem_cons h, List.map_cons, List.all_cons]
      have hp := refPart_val l[i] (hf _ (List.getElem_mem _))
      rw [← er] at hp ⊢
      cases hb : partOk (rdOf ByteArray.empty l (i : Int)).data.toList with
      | true =>
        rw [hb] at hp
        rw [Bool.true_and]
        exact Ev.step (fun k => rfl) (Ev.pos (by omega) (Ev.pos (by omega) (Ev.bind hp (Ev.pos rfl (by rw [wrap_in (by omega) (by omega)]; exact ih)))))
      | false =>
        rw [hb] at hp
        rw [Bool.false_and]
        exact Ev.step (fun k => rfl) (Ev.pos (by omega) (Ev.pos (by omega) (Ev.bind hp (Ev.neg (by decide) (Ev.now false)))))
    · have : l.drop i = [] := List.drop_eq_nil_of_le (by omega)
      rw [this]
      exact Ev.step (fun k => rfl) (Ev.neg (by omega) (Ev.now true))
theorem refIs_val (s : ByteArray) (hs : s.size ≤ 1000000) : Ev (fun k => graftageref06_Is.f k s) (pathOk s.data.toList) := by
  have e : ∀ l b k, graftageref06_Is.j0 (k + 1) l b = if b = true then some false else graftageref06_Is.l0 k l 0 := fun l b k => by simp only [graftageref06_Is.j0]
  unfold graftageref06_Is.f
  have el := size_list s
  by_cases h0 : s.size = 0
  · have hn : s.data.toList = [] := List.length_eq_zero_iff.mp (by omega)
    have hp : Ev (fun k => graftageref06_Parts.f k s) [] := by
      unfold graftageref06_Parts.f
      exact Ev.pos (by rw [Lib.toList_data]; exact hn) (Ev.now [])
    rw [hn]
    exact Ev.bind hp (Ev.pos (by simp) (Ev.step (e [] true) (Ev.pos rfl (Ev.now false))))
  obtain ⟨r, hr, hm⟩ := refParts_val s hs h0
  have hlen : r.length = (comps s.data.toList).length := by rw [← hm, List.length_map]
  have hc := comps_length s.data.toList
  have hcl := List.count_le_length (a := (47 : UInt8)) (l := s.data.toList)
  refine Ev.bind hr (Ev.neg (by omega) ?_)
  unfold pathOk
  have d1 : decide (1 ≤ s.data.toList.length) = true := decide_eq_true (by omega)
  rw [d1, Bool.true_and]
  by_cases h1 : (r.length : Int) > 16
  · have : decide ((comps s.data.toList).length ≤ 16) = false := decide_eq_false (by omega)
    rw [this, Bool.and_false]
    exact Ev.pos h1 (Ev.step (e r true) (Ev.pos rfl (Ev.now false)))
  have d2 : decide ((comps s.data.toList).length ≤ 16) = true := decide_eq_true (by omega)
  rw [d2, Bool.and_true]
  refine Ev.neg h1 ?_
  by_cases h2 : (s.size : Int) > 255
  · have e1 : decide ((s.size : Int) > 255) = true := decide_eq_true h2
    have e2 : decide (s.data.toList.length ≤ 255) = false := decide_eq_false (by omega)
    rw [e1, e2]
    exact Ev.step (e r true) (Ev.pos rfl (Ev.now false))
  · have e1 : decide ((s.size : Int) > 255) = false := decide_eq_false h2
    have e2 : decide (s.data.toList.length ≤ 255) = true := decide_eq_true (by omega)
    rw [e1, e2, Bool.true_and, ← hm]
    have := refIs_loop_val r (by omega) (fun x hx => comps_free s.data.toList _ (by rw [← hm]; exact List.mem_map.mpr ⟨x, hx, rfl⟩)) r.length 0 (by omega) (by omega)
    rw [List.drop_zero] at this
    exact Ev.step (e r false) (Ev.neg (by decide) this)
end Go.Proofs.YtabimfpjdcggaaaDoor.X
