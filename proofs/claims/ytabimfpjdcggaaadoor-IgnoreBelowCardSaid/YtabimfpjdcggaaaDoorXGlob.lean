/- Every rule is told of every path: the plain side of glob.part, glob.parts, ignore.Has and ignore.Is. -/
import Derived.Test.YtabimfpjdcggaaaDoorIgElse
import Derived.Test.YtabimfpjdcggaaaDoorXPath
namespace Go.Proofs.YtabimfpjdcggaaaDoor.X
open Go.RowKit Go.Proofs.YtabimfpjdcggaaaDoorW.PrintWords Go.Proofs.YtabimfpjdcggaaaDoorW.PrintLast Go.Proofs.YtabimfpjdcggaaaDoorW.PrintMore
open XPlain

theorem Ev.at {α : Type} {g : Nat → Option α} {r : α} (h : Ev g r) : ∃ k, g (k + 1) = some r := by
  obtain ⟨K, h⟩ := h
  exact ⟨K, h (K + 1) (by omega)⟩
/-- From a place on a pattern may be. -/
def Good (p : ByteArray) (i : Int) : Prop := Ev (fun k => glob_good.l0 k p i) true
theorem good_of {p : ByteArray} {k : Nat} {i : Int} (h : glob_good.l0 k p i = some true) : Good p i := Ev.of (g := fun k => glob_good.l0 k p i) (fun k => glob_good.mono_l k _ _) h
/-- Where a class ends is no matter of the byte. -/
theorem cls_same (p : ByteArray) (c c' : Int) : ∀ (k : Nat) (i : Int) (b b' f : Bool), (glob_cls p c k i b f).map (·.2) = (glob_cls p c' k i b' f).map (·.2)
  | 0, _, _, _, _ => rfl
  | k + 1, i, b, b', f => by
    simp only [glob_cls]
    split
    · split
      · split
        · split
          · exact cls_same p c c' k _ _ _ _
          · rfl
        · exact cls_same p c c' k _ _ _ _
      · rfl
    · split <;> rfl
theorem class_end (p : ByteArray) (i c c' : Int) : (glob_class.r p i c).2 = (glob_class.r p i c').2 := by
  unfold glob_class.r
  have h := cls_same p c c' (p.size + 1) (if glob_class.n p i = true then i + 1 else i) false false true
  generalize glob_cls p c (p.size + 1) (if glob_class.n p i = true then i + 1 else i) false true = x at h ⊢
  generalize glob_cls p c' (p.size + 1) (if glob_class.n p i = true then i + 1 else i) false true = y at h ⊢
  cases x with
  | none => cases y with
    | none => rfl
    | some y => simp at h
  | some x => cases y with
    | none => simp at h
    | some y =>
      simp only [Option.map_some, Option.some.injEq] at h
      simp only [glob_class.fin]
      omega
/-- What the scan of a pattern that may be met at a place. -/
theorem good_next {p : ByteArray} {i : Int} (hp : p.size ≤ 1000000) (h0 : 0 ≤ i) (h1 : i < p.size) (h : Good p i) :
    (bt p i = 92 → i + 2 ≤ p.size ∧ Good p (i + 2)) ∧ (bt p i ≠ 92 → bt p i = 91 → ∀ c, 0 ≤ (glob_class.r p (i + 1) c).2 ∧ Good p (glob_class.r p (i + 1) c).2) ∧ (bt p i ≠ 92 → bt p i ≠ 91 → Good p (i + 1)) := by
  obtain ⟨k, hk⟩ := Ev.at h
  have w1 : wrap64 (i + 1) = i + 1 := wrap_in (by omega) (by omega)
  have w2 : wrap64 (i + 2) = i + 2 := wrap_in (by omega) (by omega)
  simp only [glob_good.l0, if_pos h1, if_pos h0, w1, w2] at hk
  refine ⟨fun h => ?_, fun h h' c => ?_, fun h h' => ?_⟩
  · rw [if_pos h] at hk
    by_cases he : i + 1 = (p.size : Int)
    · rw [if_pos he] at hk; cases hk
    · rw [if_neg he] at hk
      exact ⟨by omega, good_of hk⟩
  · rw [if_neg h, if_pos h'] at hk
    have hf : glob_class.f p (i + 1) 0 = some (glob_class.r p (i + 1) 0) := by unfold glob_class.f; rw [if_pos (by omega)]
    rw [hf, Option.bind_some] at hk
    rw [class_end p (i + 1) c 0]
    by_cases he : (glob_class.r p (i + 1) 0).2 < 0
    · rw [if_pos he] at hk; cases hk
    · rw [if_neg he] at hk
      exact ⟨by omega, good_of hk⟩
  · rw [if_neg h, if_neg h'] at hk
    exact good_of hk
/-- One byte against the place of a pattern that may be. -/
theorem step_tot {p : ByteArray} {i c : Int} (hp : p.size ≤ 1000000) (h0 : 0 ≤ i) (h1 : i < p.size) (h : Good p i) (c0 : 0 ≤ c) (c1 : c ≤ 255) : ∃ r, glob_step.f p i c = some r ∧ (r.1 = true → i < r.2 ∧ r.2 ≤ p.size ∧ Good p r.2) := by
  obtain ⟨g1, g2, g3⟩ := good_next hp h0 h1 h
  have w1 : wrap64 (i + 1) = i + 1 := wrap_in (by omega) (by omega)
  have w2 : wrap64 (i + 2) = i + 2 := wrap_in (by omega) (by omega)
  unfold glob_step.f
  rw [if_pos h0, if_pos h1, w1, w2]
  by_cases a : bt p i = 63
  · rw [if_pos a]
    exact ⟨_, rfl, fun _ => ⟨by show i < i + 1; omega, by show i + 1 ≤ _; omega, g3 (by omega) (by omega)⟩⟩
  rw [if_neg a]
  by_cases b : bt p i = 91
  · rw [if_pos b]
    obtain ⟨r, hr, hr2⟩ := class_tot p (i + 1) c (by omega) (by omega) (by omega) c0 c1
    have hf : glob_class.f p (i + 1) c = some (glob_class.r p (i + 1) c) := by unfold glob_class.f; rw [if_pos (by omega)]
    rw [hf] at hr ⊢
    have e := Option.some.inj hr
    rw [Option.bind_some]
    obtain ⟨q1, q2⟩ := g2 (by omega) b c
    refine ⟨_, rfl, fun _ => ?_⟩
    rw [← e] at hr2
    exact ⟨by show i < (glob_class.r p (i + 1) c).2; omega, by show (glob_class.r p (i + 1) c).2 ≤ _; omega, q2⟩
  rw [if_neg b]
  by_cases d : bt p i = 92
  · obtain ⟨q1, q2⟩ := g1 d
    rw [if_pos d, if_pos (by omega), if_pos (by omega)]
    exact ⟨_, rfl, fun _ => ⟨by show i < i + 2; omega, by show i + 2 ≤ _; omega, q2⟩⟩
  · rw [if_neg d]
    exact ⟨_, rfl, fun _ => ⟨by show i < i + 1; omega, by show i + 1 ≤ _; omega, g3 d b⟩⟩
theorem part_star_tot (p s : ByteArray) (hp : p.size ≤ 1000000) (hs : s.size ≤ 1000000) : ∀ (a b : Nat) (i k star start : Int), (s.size : Int) - start ≤ a → (p.size : Int) - i ≤ b → 0 ≤ i → i ≤ p.size → 0 ≤ k → k ≤ s.size → 0 ≤ start → start ≤ k → Good p i → (star < 0 ∨ (0 ≤ star ∧ star ≤ p.size ∧ Good p star)) → ∃ r, Ev (fun n => glob_part.l0 n p s i k star start) r := by
  have el : ∀ x5 x6 x7 x8 n, glob_part.l0 (n + 1) p s x5 x6 x7 x8 = if x5 < (p.size : Int) then (if 0 ≤ x5 then (glob_part.j1 n p s x5 x6 x7 x8 ((bt p x5) == 42)) else (none)) else (glob_part.j1 n p s x5 x6 x7 x8 false) := fun _ _ _ _ n => by simp only [glob_part.l0]
  have e1 : ∀ x5 x6 x7 x8 x11 n, glob_part.j1 (n + 1) p s x5 x6 x7 x8 x11 = if x11 = true then (glob_part.l0 n p s (wrap64 (x5 + 1)) x6 (wrap64 (x5 + 1)) x6) else (if x5 = (p.size : Int) then (glob_part.j2 n p s x5 x6 x7 x8 (x6 == (s.size : Int))) else (glob_part.j2 n p s x5 x6 x7 x8 false)) := fun _ _ _ _ _ n => by simp only [glob_part.j1]
  have e2 : ∀ x5 x6 x7 x8 x26 n, glob_part.j2 (n + 1) p s x5 x6 x7 x8 x26 = if x26 = true then (some true) else (if x5 < (p.size : Int) then (glob_part.j3 n p s x5 x6 x7 x8 (decide (x6 < (s.size : Int)))) else (glob_part.j3 n p s x5 x6 x7 x8 false)) := fun _ _ _ _ _ n => by simp only [glob_part.j2]
  have e3 : ∀ x5 x6 x7 x8 x37 n, glob_part.j3 (n + 1) p s x5 x6 x7 x8 x37 = if x37 = true then (if 0 ≤ x6 then (if x6 < (s.size : Int) then ((glob_step.f p x5 (bt s x6)).bind fun bt153 => (if bt153.1 = true then (glob_part.l0 n p s bt153.2 (wrap64 (x6 + 1)) x7 x8) else (if x7 < 0 then (some false) else (if x8 ≥ (s.size : Int) then (some false) else (glob_part.l0 n p s x7 (wrap64 (x8 + 1)) x7 (wrap64 (x8 + 1))))))) else (none)) else (none)) else (if x7 < 0 then (some false) else (if x8 ≥ (s.size : Int) then (some false) else (glob_part.l0 n p s x7 (wrap64 (x8 + 1)) x7 (wrap64 (x8 + 1))))) := fun _ _ _ _ _ n => by simp only [glob_part.j3]
  intro a
  induction a with
  | zero =>
    intro b
    induction b with
    | zero =>
      intro i k star start ha hb i0 i1 k0 k1 s0 s1 hg hst
      have hk : k = s.size := by omega
      have hi : i = p.size := by omega
      exact ⟨true, Ev.step (el _ _ _ _) (Ev.neg (by omega) (Ev.step (e1 _ _ _ _ _) (Ev.neg (by decide) (Ev.pos hi (Ev.step (e2 _ _ _ _ _) (Ev.pos (by simpa using hk) (Ev.now true)))))))⟩
    | succ b ih =>
      intro i k star start ha hb i0 i1 k0 k1 s0 s1 hg hst
      have hk : k = s.size := by omega
      by_cases hi : i = p.size
      · exact ⟨true, Ev.step (el _ _ _ _) (Ev.neg (by omega) (Ev.step (e1 _ _ _ _ _) (Ev.neg (by decide) (Ev.pos hi (Ev.step (e2 _ _ _ _ _) (Ev.pos (by simpa using hk) (Ev.now true)))))))⟩
      · have hl : i < p.size := by omega
        have w1 : wrap64 (i + 1) = i + 1 := wrap_in (by omega) (by omega)
        by_cases hc : bt p i = 42
        · have g := (good_next hp i0 hl hg).2.2 (by omega) (by omega)
          obtain ⟨r, hr⟩ := ih (i + 1) k (i + 1) k (by omega) (by omega) (by omega) (by omega) k0 k1 k0 (by omega) g (.inr ⟨by omega, by omega, g⟩)
          exact ⟨r, Ev.step (el _ _ _ _) (Ev.pos hl (Ev.pos i0 (Ev.step (e1 _ _ _ _ _) (Ev.pos (by simpa using hc) (by rw [w1]; exact hr)))))⟩
        · refine ⟨false, Ev.step (el _ _ _ _) (Ev.pos hl (Ev.pos i0 (Ev.step (e1 _ _ _ _ _) (Ev.neg (by simpa using hc) (Ev.neg hi (Ev.step (e2 _ _ _ _ _) (Ev.neg (by decide) (Ev.pos hl (Ev.step (e3 _ _ _ _ _) (Ev.neg (by simp; omega) ?_))))))))))⟩
          by_cases hs0 : star < 0
          · exact Ev.pos hs0 (Ev.now false)
          · exact Ev.neg hs0 (Ev.pos (by omega) (Ev.now false))
  | succ a iha =>
    have back : ∀ (star start : Int), (s.size : Int) - start ≤ (a + 1 : Nat) → 0 ≤ start → start ≤ s.size → (star < 0 ∨ (0 ≤ star ∧ star ≤ p.size ∧ Good p star)) → ∃ r, Ev (fun n => if star < 0 then (some false) else (if start ≥ (s.size : Int) then (some false) else (glob_part.l0 n p s star (wrap64 (start + 1)) star (wrap64 (start + 1))))) r := by
      intro star start ha s0 s1 hst
      by_cases hs0 : star < 0
      · exact ⟨false, Ev.pos hs0 (Ev.now false)⟩
      · rcases hst with h | ⟨h, h', h''⟩
        · omega
        · by_cases hf : start ≥ (s.size : Int)
          · exact ⟨false, Ev.neg hs0 (Ev.pos hf (Ev.now false))⟩
          · obtain ⟨r, hr⟩ := iha p.size star (start + 1) star (start + 1) (by omega) (by omega) h h' (by omega) (by omega) (by omega) (by omega) h'' (.inr ⟨h, h', h''⟩)
            exact ⟨r, Ev.neg hs0 (Ev.neg hf (by rw [wrap_in (by omega) (by omega)]; exact hr))⟩
    intro b
    induction b with
    | zero =>
      intro i k star start ha hb i0 i1 k0 k1 s0 s1 hg hst
      have hi : i = p.size := by omega
      by_cases hk : k = s.size
      · exact ⟨true, Ev.step (el _ _ _ _) (Ev.neg (by omega) (Ev.step (e1 _ _ _ _ _) (Ev.neg (by decide) (Ev.pos hi (Ev.step (e2 _ _ _ _ _) (Ev.pos (by simpa using hk) (Ev.now true)))))))⟩
      · obtain ⟨r, hr⟩ := back star start ha s0 (by omega) hst
        exact ⟨r, Ev.step (el _ _ _ _) (Ev.neg (by omega) (Ev.step (e1 _ _ _ _ _) (Ev.neg (by decide) (Ev.pos hi (Ev.step (e2 _ _ _ _ _) (Ev.neg (by simpa using hk) (Ev.neg (by omega) (Ev.step (e3 _ _ _ _ _) (Ev.neg (by decide) hr)))))))))⟩
    | succ b ih =>
      intro i k star start ha hb i0 i1 k0 k1 s0 s1 hg hst
      obtain ⟨rb, hrb⟩ := back star start ha s0 (by omega) hst
      by_cases hi : i = p.size
      · by_cases hk : k = s.size
        · exact ⟨true, Ev.step (el _ _ _ _) (Ev.neg (by omega) (Ev.step (e1 _ _ _ _ _) (Ev.neg (by decide) (Ev.pos hi (Ev.step (e2 _ _ _ _ _) (Ev.pos (by simpa using hk) (Ev.now true)))))))⟩
        · exact ⟨rb, Ev.step (el _ _ _ _) (Ev.neg (by omega) (Ev.step (e1 _ _ _ _ _) (Ev.neg (by decide) (Ev.pos hi (Ev.step (e2 _ _ _ _ _) (Ev.neg (by simpa using hk) (Ev.neg (by omega) (Ev.step (e3 _ _ _ _ _) (Ev.neg (by decide) hrb)))))))))⟩
      · have hl : i < p.size := by omega
        have w1 : wrap64 (i + 1) = i + 1 := wrap_in (by omega) (by omega)
        by_cases hc : bt p i = 42
        · have g := (good_next hp i0 hl hg).2.2 (by omega) (by omega)
          obtain ⟨r, hr⟩ := ih (i + 1) k (i + 1) k (by omega) (by omega) (by omega) (by omega) k0 k1 k0 (by omega) g (.inr ⟨by omega, by omega, g⟩)
          exact ⟨r, Ev.step (el _ _ _ _) (Ev.pos hl (Ev.pos i0 (Ev.step (e1 _ _ _ _ _) (Ev.pos (by simpa using hc) (by rw [w1]; exact hr)))))⟩
        · have here : ∀ r, Ev (fun n => glob_part.j3 n p s i k star start (decide (k < (s.size : Int)))) r → Ev (fun n => glob_part.l0 n p s i k star start) r := fun r hr => Ev.step (el _ _ _ _) (Ev.pos hl (Ev.pos i0 (Ev.step (e1 _ _ _ _ _) (Ev.neg (by simpa using hc) (Ev.neg hi (Ev.step (e2 _ _ _ _ _) (Ev.neg (by decide) (Ev.pos hl hr))))))))
          by_cases hk : k < s.size
          · have hbr := bt_range s k
            obtain ⟨x, hx, hx2⟩ := step_tot hp i0 hl hg hbr.1 hbr.2
            by_cases hm : x.1 = true
            · obtain ⟨q1, q2, q3⟩ := hx2 hm
              obtain ⟨r, hr⟩ := ih x.2 (k + 1) star start ha (by omega) (by omega) q2 (by omega) (by omega) s0 (by omega) q3 hst
              exact ⟨r, here r (Ev.step (e3 _ _ _ _ _) (Ev.pos (decide_eq_true hk) (Ev.pos k0 (Ev.pos hk (Ev.val hx (Ev.pos hm (by rw [wrap_in (by omega) (by omega)]; exact hr)))))))⟩
            · exact ⟨rb, here rb (Ev.step (e3 _ _ _ _ _) (Ev.pos (decide_eq_true hk) (Ev.pos k0 (Ev.pos hk (Ev.val hx (Ev.neg hm hrb))))))⟩
          · exact ⟨rb, here rb (Ev.step (e3 _ _ _ _ _) (Ev.neg (by simpa using hk) hrb))⟩
theorem globPart_tot (p s : ByteArray) (hp : p.size ≤ 1000000) (hs : s.size ≤ 1000000) (h : Good p 0) : ∃ r, Ev (fun n => glob_part.f n p s) r :=
  part_star_tot p s hp hs s.size p.size 0 0 (-1) 0 (by omega) (by omega) (by omega) (by omega) (by omega) (by omega) (by omega) (by omega) h (.inl (by decide))

/-! ### glob.parts -/
theorem rd_part {l : List ByteArray} {i : Int} (h0 : 0 ≤ i) (h1 : i < l.length) : rdOf ByteArray.empty l i ∈ l := rdOf_mem h0 h1
theorem parts_inner (s : List ByteArray) (x : ByteArray) (xs : List ByteArray) (n : Int) (j : Int) (hs : s.length ≤ 1000000) (hsz : ∀ y, y ∈ s → y.size ≤ 1000000) (hx : x.size ≤ 1000000) (hg : Good x 0) (reach : List Bool) (hr : reach.length = s.length + 1)
    (next : ∀ r : List Bool, r.length = s.length + 1 → ∃ b, Ev (fun k => glob_parts.l0 k s r xs n (wrap64 (j + 1))) b) : ∀ (d : Nat) (r8 : List Bool) (i : Int), r8.length = s.length + 1 → 0 ≤ i → i ≤ reach.length → (reach.length : Int) - i ≤ d → ∃ b, Ev (fun k => glob_parts.l1 k s x r8 xs n j reach (reach.length : Int) i) b := by
  have e1 : ∀ x8 x29 k, glob_parts.l1 (k + 1) s x x8 xs n j reach (reach.length : Int) x29 = if x29 < (reach.length : Int) then (if 0 ≤ x29 then (if x29 < (reach.length : Int) then (if x.toList = ([42, 42] : List UInt8) then (if rdOf false reach x29 = true then (if x29 < (x8.length : Int) then (glob_parts.l1 k s x (x8.set (x29 : Int).toNat true) xs n j reach (reach.length : Int) (wrap64 (x29 + 1))) else (none)) else (if x29 > 0 then (if 0 ≤ (wrap64 (x29 - 1)) then (if (wrap64 (x29 - 1)) < (x8.length : Int) then (if x29 < (x8.length : Int) then (glob_parts.l1 k s x (x8.set (x29 : Int).toNat (rdOf false x8 (wrap64 (x29 - 1)))) xs n j reach (reach.length : Int) (wrap64 (x29 + 1))) else (none)) else (none)) else (none)) else (if x29 < (x8.length : Int) then (glob_parts.l1 k s x (x8.set (x29 : Int).toNat false) xs n j reach (reach.length : Int) (wrap64 (x29 + 1))) else (none)))) else (if rdOf false reach x29 = true then (if x29 < (s.length : Int) then ((glob_part.f k x (rdOf ByteArray.empty s x29)).bind fun t175 => (if 0 ≤ (wrap64 (x29 + 1)) then (if (wrap64 (x29 + 1)) < (x8.length : Int) then (glob_parts.l1 k s x (x8.set ((wrap64 (x29 + 1)) : Int).toNat t175) xs n j reach (reach.length : Int) (wrap64 (x29 + 1))) else (none)) else (none))) else (glob_parts.l1 k s x x8 xs n j reach (reach.length : Int) (wrap64 (x29 + 1)))) else (glob_parts.l1 k s x x8 xs n j reach (reach.length : Int) (wrap64 (x29 + 1))))) else (none)) else (none)) else (glob_parts.l0 k s x8 xs n (wrap64 (j + 1))) := fun _ _ k => by simp only [glob_parts.l1]
  intro d
  induction d with
  | zero =>
    intro r8 i h8 i0 i1 hd
    obtain ⟨b, hb⟩ := next r8 h8
    exact ⟨b, Ev.step (e1 _ _) (Ev.neg (by omega) hb)⟩
  | succ d ih =>
    intro r8 i h8 i0 i1 hd
    by_cases h : i < reach.length
    · have w1 : wrap64 (i + 1) = i + 1 := wrap_in (by omega) (by omega)
      have w2 : i > 0 → wrap64 (i - 1) = i - 1 := fun _ => wrap_in (by omega) (by omega)
      by_cases hst : x.toList = ([42, 42] : List UInt8)
      · by_cases hq : rdOf false reach i = true
        · obtain ⟨b, hb⟩ := ih (r8.set i.toNat true) (i + 1) (by rw [List.length_set, h8]) (by omega) (by omega) (by omega)
          exact ⟨b, Ev.step (e1 _ _) (Ev.pos h (Ev.pos i0 (Ev.pos h (Ev.pos hst (Ev.pos hq (Ev.pos (by omega) (by rw [w1]; exact hb)))))))⟩
        · by_cases hz : i > 0
          · obtain ⟨b, hb⟩ := ih (r8.set i.toNat (rdOf false r8 (i - 1))) (i + 1) (by rw [List.length_set, h8]) (by omega) (by omega) (by omega)
            exact ⟨b, Ev.step (e1 _ _) (Ev.pos h (Ev.pos i0 (Ev.pos h (Ev.pos hst (Ev.neg hq (Ev.pos hz (Ev.pos (by rw [w2 hz]; omega) (Ev.pos (by rw [w2 hz]; omega) (Ev.pos (by omega) (by rw [w1, w2 hz]; exact hb))))))))))⟩
          · obtain ⟨b, hb⟩ := ih (r8.set i.toNat false) (i + 1) (by rw [List.length_set, h8]) (by omega) (by omega) (by omega)
            exact ⟨b, Ev.step (e1 _ _) (Ev.pos h (Ev.pos i0 (Ev.pos h (Ev.pos hst (Ev.neg hq (Ev.neg hz (Ev.pos (by omega) (by rw [w1]; exact hb))))))))⟩
      · by_cases hq : rdOf false reach i = true
        · by_cases hl : i < (s.length : Int)
          · obtain ⟨t, ht⟩ := globPart_tot x (rdOf ByteArray.empty s i) hx (hsz _ (rd_part i0 hl)) hg
            obtain ⟨b, hb⟩ := ih (r8.set (i + 1).toNat t) (i + 1) (by rw [List.length_set, h8]) (by omega) (by omega) (by omega)
            exact ⟨b, Ev.step (e1 _ _) (Ev.pos h (Ev.pos i0 (Ev.pos h (Ev.neg hst (Ev.pos hq (Ev.pos hl (Ev.bind ht (Ev.pos (by rw [w1]; omega) (Ev.pos (by rw [w1]; omega) (by rw [w1]; exact hb))))))))))⟩
          · obtain ⟨b, hb⟩ := ih r8 (i + 1) h8 (by omega) (by omega) (by omega)
            exact ⟨b, Ev.step (e1 _ _) (Ev.pos h (Ev.pos i0 (Ev.pos h (Ev.neg hst (Ev.pos hq (Ev.neg hl (by rw [w1]; exact hb)))))))⟩
        · obtain ⟨b, hb⟩ := ih r8 (i + 1) h8 (by omega) (by omega) (by omega)
          exact ⟨b, Ev.step (e1 _ _) (Ev.pos h (Ev.pos i0 (Ev.pos h (Ev.neg hst (Ev.neg hq (by rw [w1]; exact hb))))))⟩
    · obtain ⟨b, hb⟩ := next r8 h8
      exact ⟨b, Ev.step (e1 _ _) (Ev.neg h hb)⟩
theorem parts_loop (s xs : List ByteArray) (hs : s.length ≤ 1000000) (hsz : ∀ y, y ∈ s → y.size ≤ 1000000) (hxs : xs.length ≤ 1000000) (hx : ∀ x, x ∈ xs → x.size ≤ 1000000 ∧ Good x 0) : ∀ (d : Nat) (reach : List Bool) (j : Int), reach.length = s.length + 1 → 0 ≤ j → j ≤ xs.length → (xs.length : Int) - j ≤ d → ∃ b, Ev (fun k => glob_parts.l0 k s reach xs (xs.length : Int) j) b := by
  have e0 : ∀ x5 x19 k, glob_parts.l0 (k + 1) s x5 xs (xs.length : Int) x19 = if x19 < (xs.length : Int) then (if 0 ≤ x19 then (if x19 < (xs.length : Int) then (if 0 ≤ (wrap64 ((s.length : Int) + 1)) then (if (wrap64 ((s.length : Int) + 1) : Int).toNat ≤ 281474976710656 then (glob_parts.l1 k s (rdOf ByteArray.empty xs x19) (List.replicate (wrap64 ((s.length : Int) + 1) : Int).toNat false) xs (xs.length : Int) x19 x5 (x5.length : Int) 0) else (none)) else (none)) else (none)) else (none)) else (if 0 ≤ (s.length : Int) then (if (s.length : Int) < (x5.length : Int) then (some (rdOf false x5 (s.length : Int))) else (none)) else (none)) := fun _ _ k => by simp only [glob_parts.l0]
  have w : wrap64 ((s.length : Int) + 1) = (s.length : Int) + 1 := wrap_in (by omega) (by omega)
  intro d
  induction d with
  | zero =>
    intro reach j hr j0 j1 hd
    exact ⟨_, Ev.step (e0 _ _) (Ev.neg (by omega) (Ev.pos (by omega) (Ev.pos (by omega) (Ev.now _))))⟩
  | succ d ih =>
    intro reach j hr j0 j1 hd
    by_cases h : j < xs.length
    · obtain ⟨q1, q2⟩ := hx _ (rd_part j0 h)
      obtain ⟨b, hb⟩ := parts_inner s (rdOf ByteArray.empty xs j) xs (xs.length : Int) j hs hsz q1 q2 reach hr (fun r hr' => by
        rw [wrap_in (by omega) (by omega)]
        exact ih r (j + 1) hr' (by omega) (by omega) (by omega)) reach.length (List.replicate (wrap64 ((s.length : Int) + 1) : Int).toNat false) 0 (by rw [List.length_replicate, w]; omega) (by omega) (by omega) (by omega)
      exact ⟨b, Ev.step (e0 _ _) (Ev.pos h (Ev.pos j0 (Ev.pos h (Ev.pos (by omega) (Ev.pos (by omega) hb)))))⟩
    · exact ⟨_, Ev.step (e0 _ _) (Ev.neg h (Ev.pos (by omega) (Ev.pos (by omega) (Ev.now _))))⟩
theorem parts_tot (s xs : List ByteArray) (hs : s.length ≤ 1000000) (hsz : ∀ y, y ∈ s → y.size ≤ 1000000) (hxs : xs.length ≤ 1000000) (hx : ∀ x, x ∈ xs → x.size ≤ 1000000 ∧ Good x 0) : ∃ b, Ev (fun k => glob_parts.f k xs s) b := by
  have w : wrap64 ((s.length : Int) + 1) = (s.length : Int) + 1 := wrap_in (by omega) (by omega)
  have hl : (List.replicate (wrap64 ((s.length : Int) + 1) : Int).toNat false).length = s.length + 1 := by rw [List.length_replicate, w]; omega
  obtain ⟨b, hb⟩ := parts_loop s xs hs hsz hxs hx xs.length ((List.replicate (wrap64 ((s.length : Int) + 1) : Int).toNat false).set (0 : Int).toNat true) 0 (by rw [List.length_set, hl]) (by omega) (by omega) (by omega)
  unfold glob_parts.f
  exact ⟨b, Ev.pos (by omega) (Ev.pos (by omega) (Ev.val (a := some (List.replicate (wrap64 ((s.length : Int) + 1) : Int).toNat false : List Bool)) rfl (Ev.pos (by rw [hl]; omega) hb)))⟩

/-! ### what a pattern that may be says -/
theorem bad_good : ∀ (l : List ByteArray) (i : Int) (k : Nat) (r : Int), 0 ≤ i → glob_Is.bad k l i = some r → r < 0 → ∀ x, x ∈ l → Good x 0
  | [], _, _, _, _, _, _, _, h => by simp at h
  | x :: l, i, k, r, h0, h, hr, y, hy => by
    simp only [glob_Is.bad] at h
    obtain ⟨g, hg, h⟩ := Option.bind_eq_some_iff.mp h
    by_cases hgt : g = true
    · subst hgt
      rw [if_pos rfl] at h
      rcases List.mem_cons.mp hy with rfl | hy
      · exact good_of hg
      · exact bad_good l (i + 1) k r (by omega) h hr y hy
    · rw [if_neg hgt] at h
      have := Option.some.inj h
      omega
theorem globIs_good {s : ByteArray} (h : Ev (fun k => glob_Is.f k s) true) : s.size ≤ 255 ∧ ∀ x, x ∈ splits s → x.size ≤ 255 ∧ Good x 0 := by
  obtain ⟨k, hk⟩ := Ev.at h
  unfold glob_Is.f at hk
  by_cases hs : 1 ≤ s.size ∧ s.size ≤ 255
  · rw [if_pos hs] at hk
    obtain ⟨i, hi, hk⟩ := Option.bind_eq_some_iff.mp hk
    have hneg : i < 0 := of_decide_eq_true (Option.some.inj hk)
    exact ⟨hs.2, fun x hx => ⟨Nat.le_trans (split_sizes _ _ _ _ hx) hs.2, bad_good _ _ _ _ (by omega) hi hneg x hx⟩⟩
  · rw [if_neg hs] at hk
    cases hk
theorem contains_val (s : ByteArray) : strings_Contains.f s (⟨#[47]⟩ : ByteArray) = some (decide (0 ≤ Lib.indexByte s.data.toList 47)) := by
  unfold strings_Contains.f
  rw [if_pos (show (⟨#[47]⟩ : ByteArray).size = 1 from rfl)]
  rfl
theorem splits_free {s : ByteArray} (h : ¬ 0 ≤ Lib.indexByte s.data.toList 47) : splits s = [s] := by
  have hf : 47 ∉ s.data.toList := by
    rcases part_slash s.data.toList with h' | ⟨u, v, e, hu⟩
    · exact h'
    · rw [e, index_at u v 47 hu] at h
      omega
  have e := splits_list s
  rw [comps_plain _ hf] at e
  match hq : splits s, e with
  | [x], e =>
    simp only [List.map_cons, List.map_nil, List.cons.injEq, and_true] at e
    rw [byteArray_list e]
  | [], e => simp at e
  | _ :: _ :: _, e => simp at e
theorem globPartF_tot (p s : ByteArray) (hs : s.size ≤ 1000000) : ∃ b, Ev (fun k => glob_Part.f k p s) b := by
  unfold glob_Part.f
  obtain ⟨g, hg⟩ := globIs_tot p
  cases g with
  | false => exact ⟨false, Ev.bind hg (Ev.neg (by decide) (Ev.now false))⟩
  | true =>
    obtain ⟨g1, g2⟩ := globIs_good hg
    by_cases c1 : decide (0 ≤ Lib.indexByte p.data.toList 47) = true
    · exact ⟨false, Ev.bind hg (Ev.pos rfl (Ev.val (contains_val p) (Ev.pos c1 (Ev.now false))))⟩
    by_cases c2 : decide (0 ≤ Lib.indexByte s.data.toList 47) = true
    · exact ⟨false, Ev.bind hg (Ev.pos rfl (Ev.val (contains_val p) (Ev.neg c1 (Ev.val (contains_val s) (Ev.pos c2 (Ev.now false))))))⟩
    rw [splits_free (by simpa using c1)] at g2
    obtain ⟨b, hb⟩ := globPart_tot p s (by omega) hs (g2 p (by simp)).2
    exact ⟨b, Ev.bind hg (Ev.pos rfl (Ev.val (contains_val p) (Ev.neg c1 (Ev.val (contains_val s) (Ev.neg c2 (Ev.bind hb (Ev.now b)))))))⟩
theorem match_tot (p s : ByteArray) (hs : s.size ≤ 999999) : ∃ b, Ev (fun k => glob_Match.f k p s) b := by
  unfold glob_Match.f
  obtain ⟨g, hg⟩ := globIs_tot p
  cases g with
  | false => exact ⟨false, Ev.bind hg (Ev.neg (by decide) (Ev.now false))⟩
  | true =>
    obtain ⟨g1, g2⟩ := globIs_good hg
    obtain ⟨i, hi⟩ := is_tot s
    cases i with
    | false => exact ⟨false, Ev.bind hg (Ev.pos rfl (Ev.bind hi (Ev.neg (by decide) (Ev.now false))))⟩
    | true =>
      have hps : ∃ l, path_Parts.f s = some l ∧ l.length ≤ 1000000 ∧ ∀ y, y ∈ l → y.size ≤ 1000000 := by
        unfold path_Parts.f
        by_cases h0 : s.toList = ([] : List UInt8)
        · exact ⟨[], by rw [if_pos h0], by simp, fun y hy => by simp at hy⟩
        · refine ⟨splits s, ?_, ?_, fun y hy => ?_⟩
          · rw [if_neg h0, split_val s (by omega)]
            rfl
          · have := split_len s
            unfold splits
            omega
          · have := split_sizes _ _ _ _ hy
            omega
      obtain ⟨l, hl, hll, hls⟩ := hps
      have hlp := split_len p
      obtain ⟨b, hb⟩ := parts_tot l (splits p) hll hls (by unfold splits; omega) (fun x hx => ⟨by have := (g2 x hx).1; omega, (g2 x hx).2⟩)
      exact ⟨b, Ev.bind hg (Ev.pos rfl (Ev.bind hi (Ev.pos rfl (Ev.val (split_val p (by omega)) (Ev.val hl (Ev.bind hb (Ev.now b)))))))⟩
end Go.Proofs.YtabimfpjdcggaaaDoor.X
