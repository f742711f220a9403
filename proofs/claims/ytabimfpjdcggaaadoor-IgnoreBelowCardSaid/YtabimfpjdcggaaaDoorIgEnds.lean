/- Every function that the statements of layer 30 reach comes to an answer: the plain side, over texts and numbers alone. -/
import Derived.Test.YtabimfpjdcggaaaDoorXx
namespace Go.Proofs.YtabimfpjdcggaaaDoor.X
open Go.RowKit Go.Proofs.YtabimfpjdcggaaaDoorW.PrintWords Go.Proofs.YtabimfpjdcggaaaDoorW.PrintLast Go.Proofs.YtabimfpjdcggaaaDoorW.PrintMore

theorem lives_true : graftagelaw30_lives.f 60 = some true := by decide +kernel
theorem lives_ev : Ev (fun k => graftagelaw30_lives.f k) true := Ev.of (g := fun k => graftagelaw30_lives.f k) (fun k => graftagelaw30_lives.mono k) lives_true

theorem Ev.ite {α : Type} {c : Prop} [Decidable c] {f g : Nat → Option α} {r : α} (h1 : c → Ev f r) (h2 : ¬ c → Ev g r) : Ev (fun k => if c then f k else g k) r := by
  by_cases h : c
  · exact Ev.congr (fun k => if_pos h) (h1 h)
  · exact Ev.congr (fun k => if_neg h) (h2 h)
theorem Ev.pos {α : Type} {c : Prop} [Decidable c] {f g : Nat → Option α} {r : α} (h : c) (h1 : Ev f r) : Ev (fun k => if c then f k else g k) r := Ev.congr (fun _ => if_pos h) h1
theorem Ev.neg {α : Type} {c : Prop} [Decidable c] {f g : Nat → Option α} {r : α} (h : ¬ c) (h1 : Ev g r) : Ev (fun k => if c then f k else g k) r := Ev.congr (fun _ => if_neg h) h1
theorem Ev.val {α β : Type} {a : Option α} {x : α} {f : Nat → α → Option β} {r : β} (h : a = some x) (k : Ev (fun n => f n x) r) : Ev (fun n => a.bind (f n)) r := by subst h; exact k

theorem wrap_in {i : Int} (h0 : -9223372036854775808 ≤ i) (h1 : i ≤ 9223372036854775807) : wrap64 i = i := by unfold wrap64; omega

theorem size_extract_le (s : ByteArray) (i j : Nat) : (s.extract i j).size ≤ s.size := by rw [ByteArray.size_extract]; omega

/-! ### path.Is -/
theorem part_loop (s : ByteArray) (hs : s.size ≤ 1000000) : ∀ (d : Nat) (i : Int), 0 ≤ i → i ≤ s.size → (s.size : Int) - i ≤ d → ∃ b, Ev (fun k => path_part.l0 k s (s.size : Int) i) b
  | 0, i, h0, h1, hd => ⟨true, Ev.step (fun k => rfl) (Ev.neg (by omega) (Ev.now true))⟩
  | d + 1, i, h0, h1, hd => by
    by_cases h : i < s.size
    · obtain ⟨b, hb⟩ := part_loop s hs d (i + 1) (by omega) (by omega) (by omega)
      by_cases hc : bt s i < 32
      · exact ⟨false, Ev.step (fun k => rfl) (Ev.pos h (Ev.pos h0 (Ev.pos h (Ev.pos hc (Ev.now false)))))⟩
      · exact ⟨b, Ev.step (fun k => rfl) (Ev.pos h (Ev.pos h0 (Ev.pos h (Ev.neg hc (by rw [wrap_in (by omega) (by omega)]; exact hb)))))⟩
    · exact ⟨true, Ev.step (fun k => rfl) (Ev.neg h (Ev.now true))⟩
theorem part_j (s : ByteArray) (b : Bool) (hs : b = false → s.size ≤ 1000000) : ∃ r, Ev (fun k => path_part.j0 k s b) r := by
  have e : ∀ k, path_part.j0 (k + 1) s b = if b = true then some false else path_part.l0 k s (s.size : Int) 0 := fun k => by simp only [path_part.j0]
  by_cases hb : b = true
  · exact ⟨false, Ev.step e (Ev.pos hb (Ev.now false))⟩
  · obtain ⟨r, hr⟩ := part_loop s (hs (by simpa using hb)) s.size 0 (by omega) (by omega) (by omega)
    exact ⟨r, Ev.step e (Ev.neg hb hr)⟩
theorem part_tot (s : ByteArray) : ∃ r, Ev (fun k => path_part.f k s) r := by
  unfold path_part.f
  by_cases h1 : (s.size : Int) < 1
  · obtain ⟨r, hr⟩ := part_j s true (by simp); exact ⟨r, Ev.pos h1 hr⟩
  by_cases h2 : (s.size : Int) > 64
  · obtain ⟨r, hr⟩ := part_j s true (by simp); exact ⟨r, Ev.neg h1 (Ev.pos h2 hr)⟩
  by_cases h3 : s.toList = ([46] : List UInt8)
  · obtain ⟨r, hr⟩ := part_j s true (by simp); exact ⟨r, Ev.neg h1 (Ev.neg h2 (Ev.pos h3 hr))⟩
  by_cases h4 : s.toList = ([46, 46] : List UInt8)
  · obtain ⟨r, hr⟩ := part_j s true (by simp); exact ⟨r, Ev.neg h1 (Ev.neg h2 (Ev.neg h3 (Ev.pos h4 hr)))⟩
  obtain ⟨r, hr⟩ := part_j s (s.toList == ([46, 103, 114, 97, 102, 116] : List UInt8)) (fun _ => by omega)
  exact ⟨r, Ev.neg h1 (Ev.neg h2 (Ev.neg h3 (Ev.neg h4 hr)))⟩
theorem is_loop (l : List ByteArray) (hl : l.length ≤ 1000000) : ∀ (d : Nat) (i : Int), 0 ≤ i → i ≤ l.length → (l.length : Int) - i ≤ d → ∃ b, Ev (fun k => path_Is.l0 k l l (l.length : Int) i) b
  | 0, i, h0, h1, hd => ⟨_, Ev.step (fun k => rfl) (Ev.neg (by omega) (Ev.now _))⟩
  | d + 1, i, h0, h1, hd => by
    by_cases h : i < l.length
    · obtain ⟨b, hb⟩ := is_loop l hl d (i + 1) (by omega) (by omega) (by omega)
      obtain ⟨p, hp⟩ := part_tot (rdOf ByteArray.empty l i)
      cases p with
      | true => exact ⟨b, Ev.step (fun k => rfl) (Ev.pos h (Ev.pos h0 (Ev.pos h (Ev.bind hp (Ev.pos rfl (by rw [wrap_in (by omega) (by omega)]; exact hb))))))⟩
      | false => exact ⟨false, Ev.step (fun k => rfl) (Ev.pos h (Ev.pos h0 (Ev.pos h (Ev.bind hp (Ev.neg (by decide) (Ev.now false))))))⟩
    · exact ⟨_, Ev.step (fun k => rfl) (Ev.neg h (Ev.now _))⟩
theorem split_len (s : ByteArray) : (Lib.splitB ⟨#[47]⟩ 0 (Lib.countB s ⟨#[47]⟩) s).length ≤ s.size + 1 := by
  have hlen := Lib.splitB_all (⟨#[47]⟩ : ByteArray) (Nat.le_refl 1) 0 _ s rfl
  have hle := Lib.countB_le (⟨#[47]⟩ : ByteArray) (Nat.le_refl 1) s.size s (Nat.le_refl _)
  have h1 : (⟨#[47]⟩ : ByteArray).size = 1 := rfl
  omega
theorem split_val (s : ByteArray) (hs : s.size < 4294967281) : strings_Split.f s (⟨#[47]⟩ : ByteArray) = some (Lib.splitB ⟨#[47]⟩ 0 (Lib.countB s ⟨#[47]⟩) s) := by
  unfold strings_Split.f
  exact if_pos ⟨rfl, hs⟩
theorem is_j (s : ByteArray) (b : Bool) (hs : b = false → s.size ≤ 999999) : ∃ r, Ev (fun k => path_Is.j0 k s b) r := by
  have e : ∀ k, path_Is.j0 (k + 1) s b = if b = true then some false else ((strings_Split.f s (⟨#[47]⟩ : ByteArray)).bind fun t => path_Is.l0 k t t (t.length : Int) 0) := fun k => by simp only [path_Is.j0]
  by_cases hb : b = true
  · exact ⟨false, Ev.step e (Ev.pos hb (Ev.now false))⟩
  · have h := hs (by simpa using hb)
    have hl := split_len s
    obtain ⟨r, hr⟩ := is_loop (Lib.splitB ⟨#[47]⟩ 0 (Lib.countB s ⟨#[47]⟩) s) (by omega) (Lib.splitB ⟨#[47]⟩ 0 (Lib.countB s ⟨#[47]⟩) s).length 0 (by omega) (by omega) (by omega)
    exact ⟨r, Ev.step e (Ev.neg hb (Ev.val (f := fun k t => path_Is.l0 k t t (t.length : Int) 0) (split_val s (by omega)) hr))⟩
theorem is_tot (s : ByteArray) : ∃ r, Ev (fun k => path_Is.f k s) r := by
  unfold path_Is.f
  by_cases h1 : s.toList = ([] : List UInt8)
  · obtain ⟨r, hr⟩ := is_j s true (by simp); exact ⟨r, Ev.pos h1 hr⟩
  obtain ⟨r, hr⟩ := is_j s (decide ((s.size : Int) > 255)) (fun h => by have := of_decide_eq_false h; omega)
  exact ⟨r, Ev.neg h1 hr⟩
theorem folder_tot (s : ByteArray) : ∃ r, Ev (fun k => ignore_isFolder.f k s) r := by
  unfold ignore_isFolder.f
  by_cases h1 : s.toList = ([] : List UInt8)
  · exact ⟨true, Ev.pos h1 (Ev.now true)⟩
  obtain ⟨r, hr⟩ := is_tot s
  exact ⟨r, Ev.neg h1 (Ev.bind hr (Ev.now r))⟩

/-! ### glob -/
theorem cls_end (p : ByteArray) (c : Int) : ∀ (k : Nat) (i : Int) (b f b' : Bool) (e : Int), 0 ≤ i → i ≤ p.size → glob_cls p c k i b f = some (b', e) → i ≤ e ∧ e < p.size
  | 0, _, _, _, _, _, _, _, h => by simp [glob_cls] at h
  | k + 1, i, b, f, b', e, h0, h1, h => by
    simp only [glob_cls] at h
    split at h
    · split at h
      · rename_i hok
        have hl := glob_one.le p i h1
        split at h
        · rename_i hm
          split at h
          · have hl2 := glob_one.le p ((glob_one p i).1 + 1) (by omega)
            have := cls_end p c k _ _ _ _ _ (by omega) (by omega) h
            omega
          · cases h
        · have := cls_end p c k _ _ _ _ _ (by omega) (by omega) h
          omega
      · cases h
    · split at h
      · injection h with h
        injection h with _ h
        omega
      · cases h
theorem class_tot (p : ByteArray) (i c : Int) (h0 : 0 ≤ i) (h1 : i ≤ p.size) (hs : p.size ≤ 4611686018427387900) (c0 : 0 ≤ c) (c1 : c ≤ 255) : ∃ r, glob_class.f p i c = some r ∧ (r.2 = -1 ∨ (i < r.2 ∧ r.2 ≤ p.size)) := by
  unfold glob_class.f
  rw [if_pos ⟨h0, h1, hs, c0, c1⟩]
  refine ⟨_, rfl, ?_⟩
  unfold glob_class.r
  have hn : glob_class.n p i = true → i + 1 ≤ p.size := fun h => by
    unfold glob_class.n at h
    simp only [Bool.and_eq_true, decide_eq_true_eq] at h
    omega
  generalize hg : glob_cls p c (p.size + 1) (if glob_class.n p i = true then i + 1 else i) false true = g
  cases g with
  | none => exact .inl rfl
  | some x =>
    obtain ⟨b, e⟩ := x
    by_cases hq : glob_class.n p i = true
    · rw [if_pos hq] at hg
      have := cls_end p c _ _ _ _ _ _ (by omega) (hn hq) hg
      exact .inr (by simp only [glob_class.fin]; omega)
    · rw [if_neg hq] at hg
      have := cls_end p c _ _ _ _ _ _ (by omega) (by omega) hg
      exact .inr (by simp only [glob_class.fin]; omega)
theorem good_loop (s : ByteArray) (hs : s.size ≤ 1000000) : ∀ (d : Nat) (i : Int), 0 ≤ i → i ≤ s.size → (s.size : Int) - i ≤ d → ∃ b, Ev (fun k => glob_good.l0 k s i) b
  | 0, i, h0, h1, hd => ⟨_, Ev.step (fun k => rfl) (Ev.neg (by omega) (Ev.now _))⟩
  | d + 1, i, h0, h1, hd => by
    by_cases h : i < s.size
    · have w1 : wrap64 (i + 1) = i + 1 := wrap_in (by omega) (by omega)
      have w2 : wrap64 (i + 2) = i + 2 := wrap_in (by omega) (by omega)
      by_cases c1 : bt s i = 92
      · by_cases c2 : wrap64 (i + 1) = (s.size : Int)
        · exact ⟨false, Ev.step (fun k => rfl) (Ev.pos h (Ev.pos h0 (Ev.pos c1 (Ev.pos c2 (Ev.now false)))))⟩
        · obtain ⟨b, hb⟩ := good_loop s hs d (i + 2) (by omega) (by omega) (by omega)
          exact ⟨b, Ev.step (fun k => rfl) (Ev.pos h (Ev.pos h0 (Ev.pos c1 (Ev.neg c2 (by rw [w2]; exact hb)))))⟩
      · by_cases c3 : bt s i = 91
        · obtain ⟨r, hr, hr2⟩ := class_tot s (i + 1) 0 (by omega) (by omega) (by omega) (by omega) (by omega)
          rw [← w1] at hr
          by_cases c4 : r.2 < 0
          · exact ⟨false, Ev.step (fun k => rfl) (Ev.pos h (Ev.pos h0 (Ev.neg c1 (Ev.pos c3 (Ev.val hr (Ev.pos c4 (Ev.now false)))))))⟩
          · obtain ⟨b, hb⟩ := good_loop s hs d r.2 (by omega) (by omega) (by omega)
            exact ⟨b, Ev.step (fun k => rfl) (Ev.pos h (Ev.pos h0 (Ev.neg c1 (Ev.pos c3 (Ev.val hr (Ev.neg c4 hb))))))⟩
        · obtain ⟨b, hb⟩ := good_loop s hs d (i + 1) (by omega) (by omega) (by omega)
          exact ⟨b, Ev.step (fun k => rfl) (Ev.pos h (Ev.pos h0 (Ev.neg c1 (Ev.neg c3 (by rw [w1]; exact hb)))))⟩
    · exact ⟨_, Ev.step (fun k => rfl) (Ev.neg h (Ev.now _))⟩
theorem good_tot (s : ByteArray) (hs : s.size ≤ 1000000) : ∃ r, Ev (fun k => glob_good.f k s) r := good_loop s hs s.size 0 (by omega) (by omega) (by omega)
theorem split_sizes (sep : ByteArray) : ∀ (n : Nat) (s x : ByteArray), x ∈ Lib.splitB sep 0 n s → x.size ≤ s.size
  | 0, s, x, h => by
    simp only [Lib.splitB, List.mem_singleton] at h
    rw [h]; exact Nat.le_refl _
  | n + 1, s, x, h => by
    simp only [Lib.splitB] at h
    split at h
    · rw [List.mem_singleton] at h
      rw [h]; exact Nat.le_refl _
    · rcases List.mem_cons.mp h with h | h
      · rw [h]; exact size_extract_le _ _ _
      · exact Nat.le_trans (split_sizes sep n _ x h) (size_extract_le _ _ _)
theorem bad_tot : ∀ (l : List ByteArray) (i : Int), (∀ x, x ∈ l → x.size ≤ 1000000) → ∃ r, Ev (fun k => glob_Is.bad k l i) r
  | [], i, _ => ⟨-1, Ev.now (-1)⟩
  | x :: l, i, h => by
    obtain ⟨g, hg⟩ := good_tot x (h x List.mem_cons_self)
    cases g with
    | true =>
      obtain ⟨r, hr⟩ := bad_tot l (i + 1) (fun y hy => h y (List.mem_cons_of_mem _ hy))
      exact ⟨r, Ev.bind (f := fun k g => if g = true then glob_Is.bad k l (i + 1) else some i) hg (Ev.pos rfl hr)⟩
    | false => exact ⟨i, Ev.bind (f := fun k g => if g = true then glob_Is.bad k l (i + 1) else some i) hg (Ev.neg (by decide) (Ev.now i))⟩
theorem globIs_tot (s : ByteArray) : ∃ r, Ev (fun k => glob_Is.f k s) r := by
  unfold glob_Is.f
  by_cases h : 1 ≤ s.size ∧ s.size ≤ 255
  · obtain ⟨i, hi⟩ := bad_tot (Lib.splitB ⟨#[47]⟩ 0 (Lib.countB s ⟨#[47]⟩) s) 0 (fun x hx => by have := split_sizes _ _ _ _ hx; omega)
    exact ⟨_, Ev.pos h (Ev.bind hi (Ev.now (decide (i < 0))))⟩
  · exact ⟨false, Ev.neg h (Ev.now false)⟩
end Go.Proofs.YtabimfpjdcggaaaDoor.X
