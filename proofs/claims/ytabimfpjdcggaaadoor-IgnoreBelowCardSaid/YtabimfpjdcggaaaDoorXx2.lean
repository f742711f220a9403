-- Written for this claim by a program of this session (wip/xprint.py) over the translation.
import Derived.Test.YtabimfpjdcggaaaDoorXx0
import Derived.Test.YtabimfpjdcggaaaDoorXx1
namespace Go.Proofs.YtabimfpjdcggaaaDoor.X
open Go.RowKit Go.Proofs.YtabimfpjdcggaaaDoorW.PrintWords Go.Proofs.YtabimfpjdcggaaaDoorW.PrintLast Go.Proofs.YtabimfpjdcggaaaDoorW.PrintMore
attribute [local go_sem] max2_int min2_int max_two min_two max_three min_three max_four min_four XBase.setCell_drewN   -- for this text's walks alone
set_option linter.unusedVariables false
set_option linter.unusedSimpArgs false

/-! ### strings_CutPrefix: function 24 -/
def strings_CutPrefix.f (a0 : ByteArray) (a1 : ByteArray) : Option (ByteArray × Bool) := (stringslite_CutPrefix.f a0 a1).bind fun bt115 => (some (bt115.1, bt115.2))
set_option maxHeartbeats 8000000 in
set_option maxRecDepth 100000 in
theorem strings_CutPrefix.calls (a0 : ByteArray) (a1 : ByteArray) (r1 : ByteArray) (r2 : Bool) (w : World) (h : strings_CutPrefix.f a0 a1 = some (r1, r2)) :
    Calls Tryd.prog 24 #[.string a0, .string a1] w fun e w' => e = .returned (.tuple #[.string r1, .bool r2]) ∧ Drawn0 w w' := by
  have H : ((stringslite_CutPrefix.f a0 a1).bind fun bt115 => (some (bt115.1, bt115.2))) = some (r1, r2) := h
  clear h
  replace H := Option.bind_eq_some_iff.mp H
  obtain ⟨⟨t115, t116⟩, A30, H⟩ := H
  replace H : (some (t115, t116)) = some (r1, r2) := H
  have A3 := Aside0.mk A30
  clear A30
  simp only [Option.some.injEq, Prod.mk.injEq] at H
  obtain ⟨rfl, rfl⟩ := H
  go_enter Tryd.func24, Tryd.ntmps24
  go_wp2_with (first | ((with_reducible refine gate_callee (f := 43) rfl ?_); refine goesL_ (some 8) rfl rfl Tryd.func43 (by kernel_rfl) rfl #[.string a0, .string a1] rfl (by (try simp only [List.map_toArray, List.map_cons, List.map_nil]); first | done | rfl | (simp only [List.length_drop, List.length_take]; rfl)) ?_; (with_reducible refine (stringslite_CutPrefix.calls a0 a1 t115 t116 _ A3.out).mono ?_); rintro e w' ⟨rfl, ⟨nd, rfl⟩⟩; refine ⟨_, rfl, ?_⟩))
  go_ret2
  exact ⟨by first | rfl | (simp; done) | (simp [*]; done) | (simp [XBase.ne_nil_bytes, XBase.eq_nil_bytes]; done), by repeat (first | exact Drawn0.refl _ | apply Drawn0.step)⟩

/-! ### strings_HasPrefix: function 25 -/
/-- strings.HasPrefix. -/
def strings_HasPrefix.f (a0 a1 : ByteArray) : Option Bool := some (Lib.hasPrefix a0.data.toList a1.data.toList)
theorem strings_HasPrefix.calls (a0 : ByteArray) (a1 : ByteArray) (r : Bool) (w : World) (h : strings_HasPrefix.f a0 a1 = some r) :
    Calls Tryd.prog 25 #[.string a0, .string a1] w fun e w' => e = .returned (.bool r) ∧ Drawn0 w w' := by
  obtain rfl := Option.some.inj h
  exact (Tryd.strings_HasPrefix a0 a1 w).mono fun e w' ⟨he, hw⟩ => ⟨he, by rw [hw]; exact Drawn0.refl _⟩

/-! ### stringslite_HasSuffix: function 50 -/
def stringslite_HasSuffix.f (a0 : ByteArray) (a1 : ByteArray) : Option (Bool) := if (a0.size : Int) ≥ (a1.size : Int) then (if 0 ≤ (wrap64 ((a0.size : Int) - (a1.size : Int))) then (if (wrap64 ((a0.size : Int) - (a1.size : Int))) ≤ (a0.size : Int) then (some ((a0.extract ((wrap64 ((a0.size : Int) - (a1.size : Int))) : Int).toNat a0.size).toList == a1.toList)) else (none)) else (none)) else (some false)
set_option maxHeartbeats 8000000 in
set_option maxRecDepth 100000 in
theorem stringslite_HasSuffix.calls (a0 : ByteArray) (a1 : ByteArray) (r : Bool) (w : World) (h : stringslite_HasSuffix.f a0 a1 = some r) :
    Calls Tryd.prog 50 #[.string a0, .string a1] w fun e w' => e = .returned (.bool r) ∧ Drawn0 w w' := by
  have H : (if (a0.size : Int) ≥ (a1.size : Int) then (if 0 ≤ (wrap64 ((a0.size : Int) - (a1.size : Int))) then (if (wrap64 ((a0.size : Int) - (a1.size : Int))) ≤ (a0.size : Int) then (some ((a0.extract ((wrap64 ((a0.size : Int) - (a1.size : Int))) : Int).toNat a0.size).toList == a1.toList)) else (none)) else (none)) else (some false)) = some r := h
  clear h
  by_cases c3 : (a0.size : Int) ≥ (a1.size : Int)
  · rw [if_pos c3] at H
    have c3b0 : decide ((a1.size : Int) ≤ (a0.size : Int)) = true := decide_eq_true c3
    have c3b1 : decide (a1.size ≤ a0.size) = true := decide_eq_true (Int.ofNat_le.mp c3)
    clear c3
    obtain ⟨ji4, hji4⟩ : ∃ j_ : Int, (wrap64 ((a0.size : Int) - (a1.size : Int))) = j_ := ⟨_, rfl⟩
    replace H : (if 0 ≤ (ji4) then (if (ji4) ≤ (a0.size : Int) then (some ((a0.extract ((ji4) : Int).toNat a0.size).toList == a1.toList)) else (none)) else (none)) = some r := by first | (rw [hji4] at H; exact H) | (simp only [hji4] at H ⊢; exact H)
    have hji4w : (IntKind.i64.wrap ((a0.size : Int) - (a1.size : Int))) = ji4 := (i64_w _).trans hji4
    by_cases c5 : 0 ≤ (ji4)
    · rw [if_pos c5] at H
      have c5b0 := eq_true c5
      have c5b1 : decide (0 ≤ (ji4)) = true := decide_eq_true c5
      clear c5
      by_cases c6 : (ji4) ≤ (a0.size : Int)
      · rw [if_pos c6] at H
        have c6b0 := eq_true c6
        have c6b1 : decide ((ji4) ≤ (a0.size : Int)) = true := decide_eq_true c6
        clear c6
        obtain rfl := Option.some.inj H
        go_enter Tryd.func50, Tryd.ntmps50
        go_wp2
        go_ret
        exact ⟨by first | rfl | (simp; done) | (simp only [← hji4] <;> (first | rfl | simp)) | (simp [*]; done), by repeat (first | exact Drawn0.refl _ | apply Drawn0.step)⟩
      · rw [if_neg c6] at H
        exact absurd H (by simp)
    · rw [if_neg c5] at H
      exact absurd H (by simp)
  · rw [if_neg c3] at H
    have c3b0 : decide ((a1.size : Int) ≤ (a0.size : Int)) = false := decide_eq_false c3
    have c3b1 : decide (a1.size ≤ a0.size) = false := decide_eq_false (fun h => c3 (Int.ofNat_le.mpr h))
    clear c3
    obtain rfl := Option.some.inj H
    go_enter Tryd.func50, Tryd.ntmps50
    go_wp2
    go_ret
    exact ⟨by first | rfl | (simp; done) | (simp [*]; done) | (simp [XBase.ne_nil_bytes, XBase.eq_nil_bytes]; done), by repeat (first | exact Drawn0.refl _ | apply Drawn0.step)⟩

/-! ### stringslite_CutSuffix: function 45 -/
def stringslite_CutSuffix.f (a0 : ByteArray) (a1 : ByteArray) : Option (ByteArray × Bool) := (stringslite_HasSuffix.f a0 a1).bind fun t117 => (if t117 = true then (if 0 ≤ (wrap64 ((a0.size : Int) - (a1.size : Int))) then (if (wrap64 ((a0.size : Int) - (a1.size : Int))) ≤ (a0.size : Int) then (some (a0.extract 0 ((wrap64 ((a0.size : Int) - (a1.size : Int))) : Int).toNat, true)) else (none)) else (none)) else (some (a0, false)))
set_option maxHeartbeats 8000000 in
set_option maxRecDepth 100000 in
theorem stringslite_CutSuffix.calls (a0 : ByteArray) (a1 : ByteArray) (r1 : ByteArray) (r2 : Bool) (w : World) (h : stringslite_CutSuffix.f a0 a1 = some (r1, r2)) :
    Calls Tryd.prog 45 #[.string a0, .string a1] w fun e w' => e = .returned (.tuple #[.string r1, .bool r2]) ∧ Drawn0 w w' := by
  have H : ((stringslite_HasSuffix.f a0 a1).bind fun t117 => (if t117 = true then (if 0 ≤ (wrap64 ((a0.size : Int) - (a1.size : Int))) then (if (wrap64 ((a0.size : Int) - (a1.size : Int))) ≤ (a0.size : Int) then (some (a0.extract 0 ((wrap64 ((a0.size : Int) - (a1.size : Int))) : Int).toNat, true)) else (none)) else (none)) else (some (a0, false)))) = some (r1, r2) := h
  clear h
  replace H := Option.bind_eq_some_iff.mp H
  obtain ⟨t117, A30, H⟩ := H
  replace H : (if t117 = true then (if 0 ≤ (wrap64 ((a0.size : Int) - (a1.size : Int))) then (if (wrap64 ((a0.size : Int) - (a1.size : Int))) ≤ (a0.size : Int) then (some (a0.extract 0 ((wrap64 ((a0.size : Int) - (a1.size : Int))) : Int).toNat, true)) else (none)) else (none)) else (some (a0, false))) = some (r1, r2) := H
  have A3 := Aside0.mk A30
  clear A30
  by_cases c4 : t117 = true
  · subst c4
    have H1 : (if 0 ≤ (wrap64 ((a0.size : Int) - (a1.size : Int))) then (if (wrap64 ((a0.size : Int) - (a1.size : Int))) ≤ (a0.size : Int) then (some (a0.extract 0 ((wrap64 ((a0.size : Int) - (a1.size : Int))) : Int).toNat, true)) else (none)) else (none)) = some (r1, r2) := by rw [if_pos rfl] at H; exact H
    clear H
    have H := H1
    clear H1
    obtain ⟨ji5, hji5⟩ : ∃ j_ : Int, (wrap64 ((a0.size : Int) - (a1.size : Int))) = j_ := ⟨_, rfl⟩
    replace H : (if 0 ≤ (ji5) then (if (ji5) ≤ (a0.size : Int) then (some (a0.extract 0 ((ji5) : Int).toNat, true)) else (none)) else (none)) = some (r1, r2) := by first | (rw [hji5] at H; exact H) | (simp only [hji5] at H ⊢; exact H)
    (try rw [hji5] at A3)
    have hji5w : (IntKind.i64.wrap ((a0.size : Int) - (a1.size : Int))) = ji5 := (i64_w _).trans hji5
    by_cases c6 : 0 ≤ (ji5)
    · rw [if_pos c6] at H
      have c6b0 := eq_true c6
      have c6b1 : decide (0 ≤ (ji5)) = true := decide_eq_true c6
      clear c6
      by_cases c7 : (ji5) ≤ (a0.size : Int)
      · rw [if_pos c7] at H
        have c7b0 := eq_true c7
        have c7b1 : decide ((ji5) ≤ (a0.size : Int)) = true := decide_eq_true c7
        clear c7
        simp only [Option.some.injEq, Prod.mk.injEq] at H
        obtain ⟨rfl, rfl⟩ := H
        go_enter Tryd.func45, Tryd.ntmps45
        go_wp2_with (first | ((with_reducible refine gate_callee (f := 50) rfl ?_); refine goesL_ (some 8) rfl rfl Tryd.func50 (by kernel_rfl) rfl #[.string a0, .string a1] rfl (by (try simp only [List.map_toArray, List.map_cons, List.map_nil]); first | done | rfl | (simp only [List.length_drop, List.length_take]; rfl)) ?_; (with_reducible refine (stringslite_HasSuffix.calls a0 a1 true _ A3.out).mono ?_); rintro e w' ⟨rfl, ⟨nd, rfl⟩⟩; refine ⟨_, rfl, ?_⟩))
        go_ret2
        exact ⟨by first | rfl | (simp; done) | (simp only [← hji5] <;> (first | rfl | simp)) | (simp [*]; done), by repeat (first | exact Drawn0.refl _ | apply Drawn0.step)⟩
      · rw [if_neg c7] at H
        exact absurd H (by simp)
    · rw [if_neg c6] at H
      exact absurd H (by simp)
  · replace c4 := Bool.eq_false_iff.mpr c4
    subst c4
    have H1 : (some (a0, false)) = some (r1, r2) := by rw [if_neg (show ¬ (false = true) by decide)] at H; exact H
    clear H
    have H := H1
    clear H1
    simp only [Option.some.injEq, Prod.mk.injEq] at H
    obtain ⟨rfl, rfl⟩ := H
    go_enter Tryd.func45, Tryd.ntmps45
    go_wp2_with (first | ((with_reducible refine gate_callee (f := 50) rfl ?_); refine goesL_ (some 8) rfl rfl Tryd.func50 (by kernel_rfl) rfl #[.string a0, .string a1] rfl (by (try simp only [List.map_toArray, List.map_cons, List.map_nil]); first | done | rfl | (simp only [List.length_drop, List.length_take]; rfl)) ?_; (with_reducible refine (stringslite_HasSuffix.calls a0 a1 false _ A3.out).mono ?_); rintro e w' ⟨rfl, ⟨nd, rfl⟩⟩; refine ⟨_, rfl, ?_⟩))
    go_ret2
    exact ⟨by first | rfl | (simp; done) | (simp [*]; done) | (simp [XBase.ne_nil_bytes, XBase.eq_nil_bytes]; done), by repeat (first | exact Drawn0.refl _ | apply Drawn0.step)⟩

/-! ### strings_CutSuffix: function 26 -/
def strings_CutSuffix.f (a0 : ByteArray) (a1 : ByteArray) : Option (ByteArray × Bool) := (stringslite_CutSuffix.f a0 a1).bind fun bt118 => (some (bt118.1, bt118.2))
set_option maxHeartbeats 8000000 in
set_option maxRecDepth 100000 in
theorem strings_CutSuffix.calls (a0 : ByteArray) (a1 : ByteArray) (r1 : ByteArray) (r2 : Bool) (w : World) (h : strings_CutSuffix.f a0 a1 = some (r1, r2)) :
    Calls Tryd.prog 26 #[.string a0, .string a1] w fun e w' => e = .returned (.tuple #[.string r1, .bool r2]) ∧ Drawn0 w w' := by
  have H : ((stringslite_CutSuffix.f a0 a1).bind fun bt118 => (some (bt118.1, bt118.2))) = some (r1, r2) := h
  clear h
  replace H := Option.bind_eq_some_iff.mp H
  obtain ⟨⟨t118, t119⟩, A30, H⟩ := H
  replace H : (some (t118, t119)) = some (r1, r2) := H
  have A3 := Aside0.mk A30
  clear A30
  simp only [Option.some.injEq, Prod.mk.injEq] at H
  obtain ⟨rfl, rfl⟩ := H
  go_enter Tryd.func26, Tryd.ntmps26
  go_wp2_with (first | ((with_reducible refine gate_callee (f := 45) rfl ?_); refine goesL_ (some 8) rfl rfl Tryd.func45 (by kernel_rfl) rfl #[.string a0, .string a1] rfl (by (try simp only [List.map_toArray, List.map_cons, List.map_nil]); first | done | rfl | (simp only [List.length_drop, List.length_take]; rfl)) ?_; (with_reducible refine (stringslite_CutSuffix.calls a0 a1 t118 t119 _ A3.out).mono ?_); rintro e w' ⟨rfl, ⟨nd, rfl⟩⟩; refine ⟨_, rfl, ?_⟩))
  go_ret2
  exact ⟨by first | rfl | (simp; done) | (simp [*]; done) | (simp [XBase.ne_nil_bytes, XBase.eq_nil_bytes]; done), by repeat (first | exact Drawn0.refl _ | apply Drawn0.step)⟩

/-! ### strings_Contains: function 27 -/
/-- strings.Contains at a text of one byte. -/
def strings_Contains.f (a0 a1 : ByteArray) : Option Bool := if a1.size = 1 then some (decide (0 ≤ Lib.indexByte a0.data.toList (a1.data.getD 0 0))) else none
theorem strings_Contains.calls (a0 : ByteArray) (a1 : ByteArray) (r : Bool) (w : World) (h : strings_Contains.f a0 a1 = some r) :
    Calls Tryd.prog 27 #[.string a0, .string a1] w fun e w' => e = .returned (.bool r) ∧ Drawn0 w w' := by
  unfold strings_Contains.f at h
  split at h
  · rename_i h1
    obtain rfl := Option.some.inj h
    have := Tryd.strings_Contains_one a0 (a1.data.getD 0 0) w
    rw [← XBase.one_byte h1] at this
    exact this.mono fun e w' ⟨he, hw⟩ => ⟨he, by rw [hw]; exact Drawn0.refl _⟩
  · cases h

/-! ### strings_TrimPrefix: function 28 -/
/-- strings.TrimPrefix. -/
def strings_TrimPrefix.f (a0 a1 : ByteArray) : Option ByteArray := some ⟨(Lib.trimPrefix a0.data.toList a1.data.toList).toArray⟩
theorem strings_TrimPrefix.calls (a0 : ByteArray) (a1 : ByteArray) (r : ByteArray) (w : World) (h : strings_TrimPrefix.f a0 a1 = some r) :
    Calls Tryd.prog 28 #[.string a0, .string a1] w fun e w' => e = .returned (.string r) ∧ Drawn0 w w' := by
  obtain rfl := Option.some.inj h
  exact (Tryd.strings_TrimPrefix a0 a1 w).mono fun e w' ⟨he, hw⟩ => ⟨he, by rw [hw]; exact Drawn0.refl _⟩

/-! ### glob_class: function 64 -/
/-- The next byte of an item: where it goes on, the byte, is there one. -/
def glob_one (p : ByteArray) (i : Int) : Int × Int × Bool :=
  if i < p.size ∧ bt p i = 92 then (if i + 1 < p.size then (i + 2, bt p (i + 1), true) else (i + 1, 0, false))
  else if i < p.size then (i + 1, bt p i, true) else (i, 0, false)
set_option maxHeartbeats 400000 in
theorem glob_one.calls (w : World) (p : ByteArray) (i : Int) (h0 : 0 ≤ i) (hi : i ≤ 4611686018427387904) :
    Calls Tryd.prog 74 #[.pointer (some ⟨w.heap.size + 1, 0, none⟩), .pointer (some ⟨w.heap.size, 0, none⟩)] ((w.alloc (.cells #[.string p] 9)).alloc (.cells #[.int .i64 i] 3)) fun e w' =>
      e = .returned (.tuple #[.int .i32 (glob_one p i).2.1, .bool (glob_one p i).2.2]) ∧ w' = ((w.alloc (.cells #[.string p] 9)).alloc (.cells #[.int .i64 (glob_one p i).1] 3)) := by
  have hx := bt_at p i
  have hx2 := bt_at p (i+1)
  have hr := bt_range p i
  have hr2 := bt_range p (i + 1)
  have r1 := hr.1
  have r2 := hr.2
  have r3 := hr2.1
  have r4 := hr2.2
  clear hr hr2
  by_cases h1 : i < p.size
  · by_cases hb : bt p i = 92
    · by_cases h2 : i + 1 < p.size
      · have HG : Aside0 (glob_one p i = (i + 2, bt p (i + 1), true)) := ⟨by unfold glob_one; rw [if_pos ⟨h1, hb⟩, if_pos h2]⟩
        go_enter Tryd.func74, Tryd.ntmps74
        go_wp2
        go_ret2
        rw [HG.out]
        exact ⟨rfl, by rw [show i + 1 + 1 = i + 2 by omega]⟩
      · have HG : Aside0 (glob_one p i = (i + 1, 0, false)) := ⟨by unfold glob_one; rw [if_pos ⟨h1, hb⟩, if_neg h2]⟩
        go_enter Tryd.func74, Tryd.ntmps74
        go_wp2
        go_ret2
        rw [HG.out]
        exact ⟨rfl, rfl⟩
    · have HG : Aside0 (glob_one p i = (i + 1, bt p i, true)) := ⟨by unfold glob_one; rw [if_neg (fun h => hb h.2), if_pos h1]⟩
      have hb0 : (bt p i == 92) = false := beq_eq_false_iff_ne.2 hb
      go_enter Tryd.func74, Tryd.ntmps74
      go_wp2
      go_ret2
      rw [HG.out]
      exact ⟨rfl, rfl⟩
  · have HG : Aside0 (glob_one p i = (i, 0, false)) := ⟨by unfold glob_one; rw [if_neg (fun h => h1 h.1), if_neg h1]⟩
    have h1b : decide (i < (p.size : Int)) = false := decide_eq_false h1
    go_enter Tryd.func74, Tryd.ntmps74
    go_wp2
    go_ret2
    rw [HG.out]
    exact ⟨rfl, rfl⟩
theorem glob_one.le (p : ByteArray) (i : Int) (h : i ≤ p.size) : i ≤ (glob_one p i).1 ∧ (glob_one p i).1 ≤ p.size := by
  unfold glob_one
  split
  · rename_i h1
    split <;> (dsimp only; omega)
  · split <;> (dsimp only; omega)
theorem glob_one.lt (p : ByteArray) (i : Int) (h : (glob_one p i).2.2 = true) : i + 1 ≤ (glob_one p i).1 := by
  unfold glob_one at h ⊢
  split at h
  · rename_i h1
    rw [if_pos h1]
    split <;> (dsimp only; omega)
  · rename_i h1
    rw [if_neg h1]
    split at h
    · rename_i h2
      rw [if_pos h2]; dsimp only; omega
    · cases h
theorem glob_one.v (p : ByteArray) (i : Int) : 0 ≤ (glob_one p i).2.1 ∧ (glob_one p i).2.1 ≤ 255 := by
  have h1 := bt_range p i
  have h2 := bt_range p (i + 1)
  unfold glob_one
  split
  · split <;> (dsimp only; omega)
  · split <;> (dsimp only; omega)
/-- The items of a class, from place i: whether c is in one, and where the class ends. -/
def glob_cls (p : ByteArray) (c : Int) : Nat → Int → Bool → Bool → Option (Bool × Int)
  | 0, _, _, _ => none
  | k + 1, i, b, f =>
    if i < p.size ∧ (f = true ∨ bt p i ≠ 93) then
      if (glob_one p i).2.2 = true then
        if (glob_one p i).1 + 1 < p.size ∧ bt p (glob_one p i).1 = 45 ∧ bt p ((glob_one p i).1 + 1) ≠ 93 then
          if (glob_one p ((glob_one p i).1 + 1)).2.2 = true then glob_cls p c k (glob_one p ((glob_one p i).1 + 1)).1 (b || (decide ((glob_one p i).2.1 ≤ c) && decide (c ≤ (glob_one p ((glob_one p i).1 + 1)).2.1))) false else none
        else glob_cls p c k (glob_one p i).1 (b || (decide ((glob_one p i).2.1 ≤ c) && decide (c ≤ (glob_one p i).2.1))) false
      else none
    else if i < p.size then some (b, i) else none
def glob_class.n (p : ByteArray) (i : Int) : Bool := decide (i < p.size) && (decide (bt p i = 33) || decide (bt p i = 94))
def glob_class.fin (n : Bool) : Option (Bool × Int) → Bool × Int
  | some (b, e) => (b != n, e + 1)
  | none => (false, -1)
def glob_class.r (p : ByteArray) (i c : Int) : Bool × Int :=
  glob_class.fin (glob_class.n p i) (glob_cls p c (p.size + 1) (if glob_class.n p i = true then i + 1 else i) false true)
def glob_class.f (a0 : ByteArray) (a1 a2 : Int) : Option (Bool × Int) :=
  if 0 ≤ a1 ∧ a1 ≤ a0.size ∧ a0.size ≤ 4611686018427387900 ∧ 0 ≤ a2 ∧ a2 ≤ 255 then some (glob_class.r a0 a1 a2) else none
set_option maxHeartbeats 16000000 in
set_option maxRecDepth 100000 in
theorem glob_class.calls (a0 : ByteArray) (a1 : Int) (a2 : Int) (r1 : Bool) (r2 : Int) (w : World) (h : glob_class.f a0 a1 a2 = some (r1, r2)) :
    Calls Tryd.prog 64 #[.string a0, .int .i64 a1, .int .u8 a2] w fun e w' => e = .returned (.tuple #[.bool r1, .int .i64 r2]) ∧ Below w.heap.size w w' := by
  unfold glob_class.f at h
  split at h
  case isFalse => cases h
  rename_i hg
  obtain ⟨g1, g2, g3, g4, g5⟩ := hg
  have hr := Option.some.inj h
  clear h
  have hx := bt_at a0 a1
  have hrg1 := (bt_range a0 a1).1
  have hrg2 := (bt_range a0 a1).2
  have hN : glob_class.n a0 a1 = (decide (a1 < a0.size) && (decide (bt a0 a1 = 33) || decide (bt a0 a1 = 94))) := rfl
  have hn : (a1 < a0.size ∧ bt a0 a1 = 33 ∧ glob_class.n a0 a1 = true) ∨ (a1 < a0.size ∧ (bt a0 a1 == 33) = false ∧ bt a0 a1 = 94 ∧ glob_class.n a0 a1 = true) ∨ (a1 < a0.size ∧ (bt a0 a1 == 33) = false ∧ (bt a0 a1 == 94) = false ∧ glob_class.n a0 a1 = false) ∨ (decide (a1 < (a0.size : Int)) = false ∧ glob_class.n a0 a1 = false) := by
    rw [hN]
    by_cases q1 : a1 < a0.size
    · by_cases q2 : bt a0 a1 = 33
      · exact .inl ⟨q1, q2, by simp [q1, q2]⟩
      · by_cases q3 : bt a0 a1 = 94
        · exact .inr (.inl ⟨q1, beq_eq_false_iff_ne.2 q2, q3, by simp [q1, q3]⟩)
        · exact .inr (.inr (.inl ⟨q1, beq_eq_false_iff_ne.2 q2, beq_eq_false_iff_ne.2 q3, by simp [q2, q3]⟩))
    · exact .inr (.inr (.inr ⟨decide_eq_false q1, by simp [q1]⟩))
  clear hN
  unfold glob_class.r at hr
  have HR := Aside0.mk hr
  have HN := Aside0.mk hn
  clear hr hn
  go_enter Tryd.func64, Tryd.ntmps64
  go_upto_region 2 with (fail)
  go_cut [29] (fun v29 w' => v29 = .bool (glob_class.n a0 a1) ∧ w' = ((w.alloc (.cells #[.string a0] 9)).alloc (.cells #[.int .i64 a1] 3)))
  case first =>
    clear HR
    rcases HN.out with ⟨q1, q2, hn⟩ | ⟨q1, q2, q3, hn⟩ | ⟨q1, q2, q3, hn⟩ | ⟨q1, hn⟩
    all_goals
      clear HN
      have HN := Aside0.mk hn
      clear hn
      go_wp2
      go_meet
      exact ⟨by rw [HN.out], rfl⟩
  case rest =>
  obtain ⟨rfl, rfl⟩ := hcut
  go_upto_if 29 with (fail)
  go_cut [8] (fun v8 w' => ∃ (n : Bool) (i : Int), v8 = .bool n ∧ 0 ≤ i ∧ i ≤ a0.size ∧ w' = ((w.alloc (.cells #[.string a0] 9)).alloc (.cells #[.int .i64 i] 3)) ∧ Aside0 (glob_class.fin n (glob_cls a0 a2 (a0.size + 1) i false true) = (r1, r2)))
  case first =>
    have hr := HR.out
    clear HR
    cases hn : glob_class.n a0 a1 with
    | true =>
      have hlt : a1 < a0.size := by rcases HN.out with h | h | h | h <;> first | exact h.1 | (rw [hn] at h; exact absurd h.2 (by decide))
      rw [hn] at hr
      rw [if_pos rfl] at hr
      clear hn
      have HR := Aside0.mk hr
      clear hr
      go_wp2
      go_meet
      exact ⟨_, _, rfl, by omega, by omega, rfl, HR⟩
    | false =>
      rw [hn] at hr
      rw [if_neg (by decide)] at hr
      clear hn
      have HR := Aside0.mk hr
      clear hr
      go_wp2
      go_meet
      exact ⟨_, _, rfl, by omega, by omega, rfl, HR⟩
  case rest =>
    clear HR HN hx hrg1 hrg2
    obtain ⟨n, i0, rfl, hi0, hi1, rfl, HR⟩ := hcut
    go_wp2
    go_loopg [6, 10] (a0.size + 1) (fun kq v6 v10 w' => ∃ (i : Int) (b f : Bool), v6 = .bool b ∧ v10 = .bool f ∧ 0 ≤ i ∧ i ≤ a0.size ∧ Aside0 ((a0.size : Int) < kq + i) ∧ w' = ((w.alloc (.cells #[.string a0] 9)).alloc (.cells #[.int .i64 i] 3)) ∧ Aside0 (glob_class.fin n (glob_cls a0 a2 kq i b f) = (r1, r2)))
    case atStart => exact ⟨_, false, true, rfl, rfl, by omega, by omega, ⟨by omega⟩, rfl, HR⟩
    case round =>
      clear HR hi0 hi1 i0 g1 g2
      obtain ⟨i, b, f, rfl, rfl, hi0, hi1, HK, rfl, HA⟩ := hrel
      cases gk with
      | zero => have := HK.out; omega
      | succ k1 =>
        have H := HA.out
        clear HA
        have hx := bt_at a0 i
        have hy := bt_at a0 (i + 1)
        by_cases p1 : i < a0.size
        · have p1b : decide (i < (a0.size : Int)) = true := decide_eq_true p1
          by_cases p2 : f = true ∨ bt a0 i ≠ 93
          · -- an item
            have p2b : f = true ∨ (f = false ∧ (bt a0 i == 93) = false ∧ (bt a0 i != 93) = true) := by
              cases f with
              | true => exact .inl rfl
              | false =>
                have hne : bt a0 i ≠ 93 := p2.resolve_left (by decide)
                exact .inr ⟨rfl, beq_eq_false_iff_ne.2 hne, bne_iff_ne.2 hne⟩
            obtain ⟨x1, xv, xo, hxe⟩ : ∃ x1 xv xo, glob_one a0 i = (x1, xv, xo) := ⟨_, _, _, rfl⟩
            have hle := glob_one.le a0 i hi1
            have hlt := glob_one.lt a0 i
            have hxv := glob_one.v a0 i
            have C1 := glob_one.calls w a0 i hi0 (by omega)
            rw [hxe] at hle hlt hxv C1
            have e : glob_cls a0 a2 (k1 + 1) i b f = (if xo = true then
                (if x1 + 1 < a0.size ∧ bt a0 x1 = 45 ∧ bt a0 (x1 + 1) ≠ 93 then
                  if (glob_one a0 (x1 + 1)).2.2 = true then glob_cls a0 a2 k1 (glob_one a0 (x1 + 1)).1 (b || (decide (xv ≤ a2) && decide (a2 ≤ (glob_one a0 (x1 + 1)).2.1))) false else none
                else glob_cls a0 a2 k1 x1 (b || (decide (xv ≤ a2) && decide (a2 ≤ xv))) false) else none) := by
              rw [glob_cls, if_pos ⟨p1, p2⟩, hxe]
            rw [e] at H
            clear e hxe p2
            dsimp only at hle hlt hxv C1
            have hle1 := hle.1
            have hle2 := hle.2
            have hxv1 := hxv.1
            have hxv2 := hxv.2
            have HC1 := Aside0.mk C1
            have H' := Aside0.mk H
            have P2 := Aside0.mk p2b
            clear hle hxv C1 H p2b
            go_upto_region 7 with (fail)
            go_cut [45] (fun v45 w' => v45 = .bool true ∧ w' = ((w.alloc (.cells #[.string a0] 9)).alloc (.cells #[.int .i64 i] 3)))
            case first =>
              clear H' HC1
              rcases P2.out with rfl | ⟨rfl, p3, p4⟩
              all_goals
                clear P2
                go_wp2
                go_meet
                exact ⟨rfl, rfl⟩
            case rest =>
            obtain ⟨rfl, rfl⟩ := hcut
            clear P2 hx hy
            have H := H'.out
            clear H'
            cases xo with
            | false =>
              rw [if_neg (by decide)] at H
              simp only [glob_class.fin, Prod.mk.injEq] at H
              obtain ⟨rfl, rfl⟩ := H
              clear hlt
              go_wp2_with (go_at_call 74; refine HC1.out.mono ?_; rintro e w' ⟨rfl, hw⟩; rw [hw])
              go_ret2
              exact ⟨rfl, below_alloc (below_alloc (Below.refl _ _) _) _⟩
            | true =>
              rw [if_pos rfl] at H
              have hlt1 := hlt rfl
              clear hlt
              have hx1 := bt_at a0 x1
              have hx2 := bt_at a0 (x1 + 1)
              have H' := Aside0.mk H
              clear H
              go_upto_region 11 with (go_at_call 74; refine HC1.out.mono ?_; rintro e w' ⟨rfl, hw⟩; rw [hw])
              go_cut [72] (fun v72 w' => ∃ m : Bool, v72 = .bool m ∧ Aside0 (m = true ↔ (x1 + 1 < a0.size ∧ bt a0 x1 = 45 ∧ bt a0 (x1 + 1) ≠ 93)) ∧ w' = ((w.alloc (.cells #[.string a0] 9)).alloc (.cells #[.int .i64 x1] 3)))
              case first =>
                clear H' HC1
                by_cases m1 : x1 + 1 < a0.size
                · by_cases m2 : bt a0 x1 = 45
                  · by_cases m3 : bt a0 (x1 + 1) = 93
                    · go_wp2
                      go_meet
                      exact ⟨_, rfl, ⟨by first | (simp [m1, m2, m3]; done) | (simp; intros; assumption)⟩, rfl⟩
                    · have m3b : (bt a0 (x1 + 1) == 93) = false := beq_eq_false_iff_ne.2 m3
                      have m3c : (bt a0 (x1 + 1) != 93) = true := bne_iff_ne.2 m3
                      go_wp2
                      go_meet
                      exact ⟨_, rfl, ⟨by first | (simp [m1, m2, m3]; done) | (simp; intros; assumption)⟩, rfl⟩
                  · have m2b : (bt a0 x1 == 45) = false := beq_eq_false_iff_ne.2 m2
                    go_wp2
                    go_meet
                    exact ⟨_, rfl, ⟨by simp [m1, m2]⟩, rfl⟩
                · have m1b : decide (x1 + 1 < (a0.size : Int)) = false := decide_eq_false m1
                  go_wp2
                  go_meet
                  exact ⟨_, rfl, ⟨by refine ⟨fun h => ?_, fun h => by have := h.1; omega⟩; simp at h⟩, rfl⟩
              case rest =>
              obtain ⟨m, rfl, HM, rfl⟩ := hcut
              clear HC1 hx1 hx2
              have H := H'.out
              clear H'
              cases m with
              | true =>
                have m0 := HM.out.1 rfl
                rw [if_pos m0] at H
                have m1 := m0.1
                clear m0 HM
                obtain ⟨y1, yv, yo, hye⟩ : ∃ y1 yv yo, glob_one a0 (x1 + 1) = (y1, yv, yo) := ⟨_, _, _, rfl⟩
                have hle := glob_one.le a0 (x1 + 1) (by omega)
                have hlt := glob_one.lt a0 (x1 + 1)
                have hyv := glob_one.v a0 (x1 + 1)
                have C2 := glob_one.calls w a0 (x1 + 1) (by omega) (by omega)
                rw [hye] at hle hlt hyv C2 H
                clear hye
                dsimp only at hle hlt hyv C2 H
                have hley1 := hle.1
                have hley2 := hle.2
                have hyv1 := hyv.1
                have hyv2 := hyv.2
                have HC2 := Aside0.mk C2
                clear hle hyv C2
                cases yo with
                | false =>
                  rw [if_neg (by decide)] at H
                  simp only [glob_class.fin, Prod.mk.injEq] at H
                  obtain ⟨rfl, rfl⟩ := H
                  clear hlt
                  go_wp2_with (go_at_call 74; refine HC2.out.mono ?_; rintro e w' ⟨rfl, hw⟩; rw [hw]; clear hw)
                  go_ret2
                  exact ⟨rfl, below_alloc (below_alloc (Below.refl _ _) _) _⟩
                | true =>
                  rw [if_pos rfl] at H
                  have hlty := hlt rfl
                  clear hlt
                  have H' := Aside0.mk H
                  clear H
                  go_upto_region 16 with (go_at_call 74; refine HC2.out.mono ?_; rintro e w' ⟨rfl, hw⟩; rw [hw]; clear hw)
                  cases b with
                  | true =>
                    go_wp2
                    go_roundg k1
                    case measure => omega
                    case rel => exact ⟨y1, _, false, rfl, rfl, by omega, by omega, ⟨by have := HK.out; omega⟩, rfl, H'⟩
                  | false =>
                    by_cases c1 : xv ≤ a2
                    · by_cases c2 : a2 ≤ yv
                      · have c1b : decide (xv ≤ a2) = true := decide_eq_true c1
                        have c2b : decide (a2 ≤ yv) = true := decide_eq_true c2
                        have H := H'.out
                        rw [c1b, c2b] at H
                        have H2 := Aside0.mk H
                        clear H H'
                        go_wp2
                        go_roundg k1
                        case measure => omega
                        case rel => exact ⟨y1, true, false, rfl, rfl, by omega, by omega, ⟨by have := HK.out; omega⟩, rfl, H2⟩
                      · have c1b : decide (xv ≤ a2) = true := decide_eq_true c1
                        have c2b : decide (a2 ≤ yv) = false := decide_eq_false c2
                        have H := H'.out
                        rw [c1b, c2b] at H
                        have H2 := Aside0.mk H
                        clear H H'
                        go_wp2
                        go_roundg k1
                        case measure => omega
                        case rel => exact ⟨y1, false, false, rfl, rfl, by omega, by omega, ⟨by have := HK.out; omega⟩, rfl, H2⟩
                    · have c1b : decide (xv ≤ a2) = false := decide_eq_false c1
                      have H := H'.out
                      rw [c1b] at H
                      have H2 := Aside0.mk H
                      clear H H'
                      go_wp2
                      go_roundg k1
                      case measure => omega
                      case rel => exact ⟨y1, false, false, rfl, rfl, by omega, by omega, ⟨by have := HK.out; omega⟩, rfl, H2⟩
              | false =>
                rw [if_neg (fun h => by have := HM.out.2 h; cases this)] at H
                clear HM
                have H' := Aside0.mk H
                clear H
                go_upto_region 16 with (fail)
                cases b with
                | true =>
                  go_wp2
                  go_roundg k1
                  case measure => omega
                  case rel => exact ⟨x1, _, false, rfl, rfl, by omega, by omega, ⟨by have := HK.out; omega⟩, rfl, H'⟩
                | false =>
                  by_cases c1 : xv ≤ a2
                  · by_cases c2 : a2 ≤ xv
                    · have c1b : decide (xv ≤ a2) = true := decide_eq_true c1
                      have c2b : decide (a2 ≤ xv) = true := decide_eq_true c2
                      have H := H'.out
                      rw [c1b, c2b] at H
                      have H2 := Aside0.mk H
                      clear H H'
                      go_wp2
                      go_roundg k1
                      case measure => omega
                      case rel => exact ⟨x1, true, false, rfl, rfl, by omega, by omega, ⟨by have := HK.out; omega⟩, rfl, H2⟩
                    · have c1b : decide (xv ≤ a2) = true := decide_eq_true c1
                      have c2b : decide (a2 ≤ xv) = false := decide_eq_false c2
                      have H := H'.out
                      rw [c1b, c2b] at H
                      have H2 := Aside0.mk H
                      clear H H'
                      go_wp2
                      go_roundg k1
                      case measure => omega
                      case rel => exact ⟨x1, false, false, rfl, rfl, by omega, by omega, ⟨by have := HK.out; omega⟩, rfl, H2⟩
                  · have c1b : decide (xv ≤ a2) = false := decide_eq_false c1
                    have H := H'.out
                    rw [c1b] at H
                    have H2 := Aside0.mk H
                    clear H H'
                    go_wp2
                    go_roundg k1
                    case measure => omega
                    case rel => exact ⟨x1, false, false, rfl, rfl, by omega, by omega, ⟨by have := HK.out; omega⟩, rfl, H2⟩
          · -- the class ends
            obtain ⟨rfl, p3⟩ : f = false ∧ bt a0 i = 93 := by
              cases f with
              | true => exact absurd (Or.inl rfl) p2
              | false => exact ⟨rfl, Classical.byContradiction fun h => p2 (.inr h)⟩
            have e : glob_cls a0 a2 (k1 + 1) i b false = some (b, i) := by
              rw [glob_cls, if_neg (fun h => p2 h.2), if_pos p1]
            rw [e] at H
            simp only [glob_class.fin, Prod.mk.injEq] at H
            obtain ⟨rfl, rfl⟩ := H
            clear e p2
            go_wp2
            go_quiet (fail)
            go_wp2
            go_ret2
            exact ⟨rfl, pw_below_drewN (below_alloc (below_alloc (Below.refl _ _) _) _) _⟩
        · have p1b : decide (i < (a0.size : Int)) = false := decide_eq_false p1
          have e : glob_cls a0 a2 (k1 + 1) i b f = none := by
            rw [glob_cls, if_neg (fun h => p1 h.1), if_neg p1]
          rw [e] at H
          simp only [glob_class.fin, Prod.mk.injEq] at H
          obtain ⟨rfl, rfl⟩ := H
          clear e
          go_wp2
          go_ret2
          exact ⟨rfl, below_alloc (below_alloc (Below.refl _ _) _) _⟩

/-! ### glob_good: function 49 -/
def glob_good.l0 : Nat → ByteArray → Int → Option (Bool)
  | 0, _, _ => none
  | k + 1, x0, x3 => if x3 < (x0.size : Int) then (if 0 ≤ x3 then (if (bt x0 x3) = 92 then (if (wrap64 (x3 + 1)) = (x0.size : Int) then (some false) else (glob_good.l0 k x0 (wrap64 (x3 + 2)))) else (if (bt x0 x3) = 91 then ((glob_class.f x0 (wrap64 (x3 + 1)) 0).bind fun bt120 => (if bt120.2 < 0 then (some false) else (glob_good.l0 k x0 bt120.2))) else (glob_good.l0 k x0 (wrap64 (x3 + 1))))) else (none)) else (some (x0.toList != ([] : List UInt8)))
def glob_good.f (k : Nat) (a0 : ByteArray) : Option (Bool) := glob_good.l0 k a0 0
theorem glob_good.mono_l : ∀ k, (∀ y0 y1, LeO (glob_good.l0 k y0 y1) (glob_good.l0 (k + 1) y0 y1))
  | 0 => fun _ _ r h => by simp [glob_good.l0] at h
  | k + 1 => by
    have ih0 := glob_good.mono_l k
    · intro y0 y1
      unfold glob_good.l0
      repeat' first
      | (with_reducible exact ih0 _ _)
      | (with_reducible exact LeO.refl _)
      | (with_reducible exact LeO.none _)
      | (with_reducible refine LeO.ite ?_ ?_)
      | (with_reducible refine LeO.bind ?_ (fun _ => ?_))
      | exact ih0 _ _
      | exact LeO.none _
      | refine LeO.ite ?_ ?_
      | refine LeO.bind ?_ (fun _ => ?_)
theorem glob_good.mono : ∀ a0 k, LeO (glob_good.f k a0) (glob_good.f (k + 1) a0) := by
  intro a0 k
  have ih0 := glob_good.mono_l k
  unfold glob_good.f
  repeat' first
      | (with_reducible exact ih0 _ _)
      | (with_reducible exact LeO.refl _)
      | (with_reducible exact LeO.none _)
      | (with_reducible refine LeO.ite ?_ ?_)
      | (with_reducible refine LeO.bind ?_ (fun _ => ?_))
      | exact ih0 _ _
      | exact LeO.none _
      | refine LeO.ite ?_ ?_
      | refine LeO.bind ?_ (fun _ => ?_)
set_option maxHeartbeats 8000000 in
set_option maxRecDepth 100000 in
theorem glob_good.calls (k : Nat) (a0 : ByteArray) (r : Bool) (w : World) (h : glob_good.f k a0 = some r) :
    Calls Tryd.prog 49 #[.string a0] w fun e w' => e = .returned (.bool r) ∧ Below w.heap.size w w' := by
  have HB := Aside0.mk (Below.refl w.heap.size w)
  have H : (glob_good.l0 k a0 0) = some r := h
  clear h
  have H' := Aside0.mk H
  clear H
  go_enter Tryd.func49, Tryd.ntmps49
  go_wp2
  go_loopg [3] k (fun kq v3 w' => ∃ (x3_1 : Int), v3 = .int .i64 x3_1 ∧ Aside0 (glob_good.l0 kq a0 x3_1 = some r) ∧ Aside0 (kq ≤ k) ∧ Aside0 (Below w.heap.size w w'))
  case atStart => exact ⟨(0), (by first | rfl | (simp; done) | (simp [*]; done)), H', ⟨Nat.le_refl _⟩, ⟨by repeat (first | (with_reducible first | exact HB.out | apply below_alloc | apply pw_below_drewN | apply below_drew1) | exact HB.out)⟩⟩
  case round =>
    clear H'
    obtain ⟨x3_1, rfl, HA, HK1, HB⟩ := hrel
    cases gk with
    | zero => exact absurd HA.out (by simp [glob_good.l0])
    | succ k1 =>
      have H := HA.out
      clear HA
      simp only [glob_good.l0] at H
      by_cases c2 : x3_1 < (a0.size : Int)
      · rw [if_pos c2] at H
        have c2b0 : decide (x3_1 < (a0.size : Int)) = true := decide_eq_true c2
        clear c2
        by_cases c3 : 0 ≤ x3_1
        · rw [if_pos c3] at H
          have c3b0 : decide (0 ≤ x3_1) = true := decide_eq_true c3
          clear c3
          by_cases c5 : (bt a0 x3_1) = 92
          · rw [if_pos c5] at H
            have c5b0 : ((bt a0 x3_1) == 92) = true := beq_iff_eq.mpr c5
            have c5b1 : ((bt a0 x3_1) != 92) = false := bne_eq_false_iff_eq.mpr c5
            clear c5
            by_cases c6 : (wrap64 (x3_1 + 1)) = (a0.size : Int)
            · rw [if_pos c6] at H
              have c6b0 : ((wrap64 (x3_1 + 1)) == (a0.size : Int)) = true := beq_iff_eq.mpr c6
              have c6b1 : ((wrap64 (x3_1 + 1)) != (a0.size : Int)) = false := bne_eq_false_iff_eq.mpr c6
              clear c6
              obtain rfl := Option.some.inj H
              have p4 : 0 ≤ (x3_1 : Int) := of_decide_eq_true (by first | (with_reducible assumption) | assumption)
              have q4 : x3_1 < (a0.size : Int) := of_decide_eq_true (by first | (with_reducible assumption) | assumption)
              have hx4 := bt_at a0 x3_1
              replace p4 := eq_true p4
              replace q4 := eq_true q4
              go_wp2
              go_ret
              exact ⟨by first | rfl | (simp [errW_none, errW_some] <;> rfl) | (simp [*, errW_none, errW_some] <;> rfl) | (simp [XBase.ne_nil_bytes, XBase.eq_nil_bytes]; done), by repeat (first | (with_reducible first | exact HB.out | apply below_alloc | apply pw_below_drewN | apply below_drew1) | exact HB.out)⟩
            · rw [if_neg c6] at H
              have c6b0 : ((wrap64 (x3_1 + 1)) == (a0.size : Int)) = false := beq_eq_false_iff_ne.mpr c6
              have c6b1 : ((wrap64 (x3_1 + 1)) != (a0.size : Int)) = true := bne_iff_ne.mpr c6
              have H' := Aside0.mk H
              clear H
              have p4 : 0 ≤ (x3_1 : Int) := of_decide_eq_true (by first | (with_reducible assumption) | assumption)
              have q4 : x3_1 < (a0.size : Int) := of_decide_eq_true (by first | (with_reducible assumption) | assumption)
              have hx4 := bt_at a0 x3_1
              replace p4 := eq_true p4
              replace q4 := eq_true q4
              go_wp2
              go_roundg k1
              case measure => have := HK1.out; omega
              case rel => exact ⟨(wrap64 (x3_1 + 2)), (by first | rfl | (simp; done) | (simp [*]; done)), H', ⟨by have := HK1.out; omega⟩, ⟨by repeat (first | (with_reducible first | exact HB.out | apply below_alloc | apply pw_below_drewN | apply below_drew1) | exact HB.out)⟩⟩
          · rw [if_neg c5] at H
            have c5b0 : ((bt a0 x3_1) == 92) = false := beq_eq_false_iff_ne.mpr c5
            have c5b1 : ((bt a0 x3_1) != 92) = true := bne_iff_ne.mpr c5
            by_cases c7 : (bt a0 x3_1) = 91
            · rw [if_pos c7] at H
              have c7b0 : ((bt a0 x3_1) == 91) = true := beq_iff_eq.mpr c7
              have c7b1 : ((bt a0 x3_1) != 91) = false := bne_eq_false_iff_eq.mpr c7
              clear c7
              replace H := Option.bind_eq_some_iff.mp H
              obtain ⟨⟨t120, t121⟩, A80, H⟩ := H
              replace H : (if t121 < 0 then (some false) else (glob_good.l0 k1 a0 t121)) = some r := H
              have A8 := Aside0.mk A80
              clear A80
              by_cases c9 : t121 < 0
              · rw [if_pos c9] at H
                have c9b0 : decide (t121 < 0) = true := decide_eq_true c9
                clear c9
                obtain rfl := Option.some.inj H
                have p4 : 0 ≤ (x3_1 : Int) := of_decide_eq_true (by first | (with_reducible assumption) | assumption)
                have q4 : x3_1 < (a0.size : Int) := of_decide_eq_true (by first | (with_reducible assumption) | assumption)
                have hx4 := bt_at a0 x3_1
                replace p4 := eq_true p4
                replace q4 := eq_true q4
                go_wp2_with (first | ((with_reducible refine gate_callee (f := 64) rfl ?_); refine goesL_ (some 30) rfl rfl Tryd.func64 (by kernel_rfl) rfl #[.string a0, .int .i64 (wrap64 (x3_1 + 1)), .int .u8 0] rfl (by (try simp only [List.map_toArray, List.map_cons, List.map_nil]); first | done | rfl | (simp only [List.length_drop, List.length_take]; rfl)) ?_; (with_reducible refine (glob_class.calls a0 (wrap64 (x3_1 + 1)) 0 t120 t121 _ A8.out).mono ?_); rintro e w10 ⟨rfl, hb⟩; refine ⟨_, rfl, ?_⟩; have n0_ := Aside0.mk (below_step (by repeat (first | (with_reducible first | exact HB.out | apply below_alloc | apply pw_below_drewN | apply below_drew1) | exact HB.out)) hb); clear HB; have HB := n0_; clear n0_; (try clear hb); (try clear hb2); (try clear hk); (try clear hi)))
                go_ret
                exact ⟨by first | rfl | (simp [errW_none, errW_some] <;> rfl) | (simp [*, errW_none, errW_some] <;> rfl) | (simp [XBase.ne_nil_bytes, XBase.eq_nil_bytes]; done), by repeat (first | (with_reducible first | exact HB.out | apply below_alloc | apply pw_below_drewN | apply below_drew1) | exact HB.out)⟩
              · rw [if_neg c9] at H
                have c9b0 : decide (t121 < 0) = false := decide_eq_false c9
                clear c9
                have H' := Aside0.mk H
                clear H
                have p4 : 0 ≤ (x3_1 : Int) := of_decide_eq_true (by first | (with_reducible assumption) | assumption)
                have q4 : x3_1 < (a0.size : Int) := of_decide_eq_true (by first | (with_reducible assumption) | assumption)
                have hx4 := bt_at a0 x3_1
                replace p4 := eq_true p4
                replace q4 := eq_true q4
                go_wp2_with (first | ((with_reducible refine gate_callee (f := 64) rfl ?_); refine goesL_ (some 30) rfl rfl Tryd.func64 (by kernel_rfl) rfl #[.string a0, .int .i64 (wrap64 (x3_1 + 1)), .int .u8 0] rfl (by (try simp only [List.map_toArray, List.map_cons, List.map_nil]); first | done | rfl | (simp only [List.length_drop, List.length_take]; rfl)) ?_; (with_reducible refine (glob_class.calls a0 (wrap64 (x3_1 + 1)) 0 t120 t121 _ A8.out).mono ?_); rintro e w11 ⟨rfl, hb⟩; refine ⟨_, rfl, ?_⟩; have n0_ := Aside0.mk (below_step (by repeat (first | (with_reducible first | exact HB.out | apply below_alloc | apply pw_below_drewN | apply below_drew1) | exact HB.out)) hb); clear HB; have HB := n0_; clear n0_; (try clear hb); (try clear hb2); (try clear hk); (try clear hi)))
                go_roundg k1
                case measure => have := HK1.out; omega
                case rel => exact ⟨(t121), (by first | rfl | (simp; done) | (simp [*]; done)), H', ⟨by have := HK1.out; omega⟩, ⟨by repeat (first | (with_reducible first | exact HB.out | apply below_alloc | apply pw_below_drewN | apply below_drew1) | exact HB.out)⟩⟩
            · rw [if_neg c7] at H
              have c7b0 : ((bt a0 x3_1) == 91) = false := beq_eq_false_iff_ne.mpr c7
              have c7b1 : ((bt a0 x3_1) != 91) = true := bne_iff_ne.mpr c7
              have H' := Aside0.mk H
              clear H
              have p4 : 0 ≤ (x3_1 : Int) := of_decide_eq_true (by first | (with_reducible assumption) | assumption)
              have q4 : x3_1 < (a0.size : Int) := of_decide_eq_true (by first | (with_reducible assumption) | assumption)
              have hx4 := bt_at a0 x3_1
              replace p4 := eq_true p4
              replace q4 := eq_true q4
              go_wp2
              go_roundg k1
              case measure => have := HK1.out; omega
              case rel => exact ⟨(wrap64 (x3_1 + 1)), (by first | rfl | (simp; done) | (simp [*]; done)), H', ⟨by have := HK1.out; omega⟩, ⟨by repeat (first | (with_reducible first | exact HB.out | apply below_alloc | apply pw_below_drewN | apply below_drew1) | exact HB.out)⟩⟩
        · rw [if_neg c3] at H
          exact absurd H (by simp)
      · rw [if_neg c2] at H
        have c2b0 : decide (x3_1 < (a0.size : Int)) = false := decide_eq_false c2
        clear c2
        obtain rfl := Option.some.inj H
        go_wp2
        go_ret
        exact ⟨by first | rfl | (simp [errW_none, errW_some] <;> rfl) | (simp [*, errW_none, errW_some] <;> rfl) | (simp [XBase.ne_nil_bytes, XBase.eq_nil_bytes]; done), by repeat (first | (with_reducible first | exact HB.out | apply below_alloc | apply pw_below_drewN | apply below_drew1) | exact HB.out)⟩

/-! ### glob_Is: function 29 -/
/-- The place of the first part that is no good, or -1. -/
def glob_Is.bad (k : Nat) : List ByteArray → Int → Option Int
  | [], _ => some (-1)
  | x :: l, i => (glob_good.f k x).bind fun g => if g = true then glob_Is.bad k l (i + 1) else some i
def glob_Is.f (k : Nat) (a0 : ByteArray) : Option Bool :=
  if 1 ≤ a0.size ∧ a0.size ≤ 255 then (glob_Is.bad k (Lib.splitB ⟨#[47]⟩ 0 (Lib.countB a0 ⟨#[47]⟩) a0) 0).bind fun i => some (decide (i < 0)) else some false
theorem glob_Is.bad_mono (k : Nat) : ∀ l i, LeO (glob_Is.bad k l i) (glob_Is.bad (k + 1) l i)
  | [], _ => LeO.refl _
  | x :: l, i => by
    unfold glob_Is.bad
    exact LeO.bind (glob_good.mono x k) fun g => LeO.ite (glob_Is.bad_mono k l (i + 1)) (LeO.refl _)
theorem glob_Is.mono : ∀ a0 k, LeO (glob_Is.f k a0) (glob_Is.f (k + 1) a0) := by
  intro a0 k
  unfold glob_Is.f
  exact LeO.ite (LeO.bind (glob_Is.bad_mono k _ _) fun _ => LeO.refl _) (LeO.refl _)
theorem glob_Is.lit (k : Nat) (a0 : ByteArray) (r : Bool) (w : World) (h : glob_good.f k a0 = some r) :
    Calls Tryd.prog 48 #[.string a0] w fun e w' => e = .returned (.bool (!r)) ∧ Below w.heap.size w w' := by
  have C := Aside0.mk (glob_good.calls k a0 r w h)
  clear h
  go_enter Tryd.func48, Tryd.ntmps48
  go_wp2_with (go_at_call 49; refine C.out.mono ?_; rintro e w' ⟨rfl, hb⟩; have HB := Aside0.mk hb; clear hb)
  go_ret
  exact ⟨rfl, HB.out⟩
theorem glob_Is.bad_drop (k : Nat) (xs : List ByteArray) (j : Nat) (hj : j < xs.length) (i r : Int) (h : glob_Is.bad k (xs.drop j) i = some r) :
    (glob_good.f k (rdOf ByteArray.empty xs j) = some true ∧ glob_Is.bad k (xs.drop (j + 1)) (i + 1) = some r) ∨ (glob_good.f k (rdOf ByteArray.empty xs j) = some false ∧ r = i) := by
  have e : xs.drop j = rdOf ByteArray.empty xs j :: xs.drop (j + 1) := by
    rw [List.drop_eq_getElem_cons hj]
    unfold rdOf
    rw [Int.toNat_natCast, List.getD_eq_getElem?_getD, List.getElem?_eq_getElem hj]
    rfl
  rw [e] at h
  simp only [glob_Is.bad] at h
  obtain ⟨g, hg, h⟩ := Option.bind_eq_some_iff.mp h
  cases g with
  | true => exact .inl ⟨hg, by simpa using h⟩
  | false => exact .inr ⟨hg, by have := Option.some.inj (by simpa using h : some i = some r); exact this.symm⟩
set_option maxHeartbeats 4000000 in
theorem glob_Is.index (k : Nat) (A : Option Addr) (c : Nat) (xs : List ByteArray) (r : Int) (w : World) (hr : Kd.C Kd.string w A xs.length xs) (hl : xs.length ≤ 1000) (h : glob_Is.bad k xs 0 = some r) :
    Calls Tryd.prog 63 #[.slice A xs.length c, .func (.func 48) #[] #[]] w fun e w' => e = .returned (.int .i64 r) ∧ Below w.heap.size w w' := by
  have HR := Aside0.mk hr
  have H := Aside0.mk h
  have HB := Aside0.mk (Below.refl w.heap.size w)
  clear hr h
  go_enter Tryd.func63, Tryd.ntmps63
  go_wp2
  go_loopw [8] (fun v8 wr => ∃ j : Nat, v8 = .int .i64 j ∧ j ≤ xs.length ∧ Aside0 (glob_Is.bad k (xs.drop j) j = some r) ∧ Aside0 (Below w.heap.size w wr)) (fun v8 _ => xs.length - (intOf v8).toNat)
  case atStart => exact ⟨0, rfl, Nat.zero_le _, H, HB⟩
  case round =>
    clear H HB
    obtain ⟨j, rfl, hj, H, HB⟩ := hrel
    by_cases hlt : j < xs.length
    · have hcell := Kd.at_string (Kd.C_below HR.out HB.out) (j : Int) (by omega) (by omega)
      obtain ⟨ad, rfl, hc⟩ := hcell
      rw [Int.toNat_natCast] at hc
      rcases glob_Is.bad_drop k xs j hlt _ _ H.out with ⟨hg, hb⟩ | ⟨hg, rfl⟩
      · have C := Aside0.mk (glob_Is.lit k _ _ wr hg)
        have H2 := Aside0.mk hb
        clear hg hb H
        go_wp2_with (go_at_call 48; refine C.out.mono ?_; rintro e w' ⟨rfl, hb⟩; have HB2 := Aside0.mk hb; clear hb)
        go_roundw
        case rel => exact ⟨j + 1, by go_num, by omega, ⟨by rw [show ((j + 1 : Nat) : Int) = (j : Int) + 1 by omega]; exact H2.out⟩, ⟨below_then HB.out HB.out.size HB2.out⟩⟩
        case measure => simp [intOf]; omega
      · have C := Aside0.mk (glob_Is.lit k _ _ wr hg)
        clear hg H
        go_wp2_with (go_at_call 48; refine C.out.mono ?_; rintro e w' ⟨rfl, hb⟩; have HB2 := Aside0.mk hb; clear hb)
        go_ret
        exact ⟨rfl, below_then HB.out HB.out.size HB2.out⟩
    · obtain rfl : j = xs.length := by omega
      have h := H.out
      rw [List.drop_length] at h
      simp only [glob_Is.bad] at h
      obtain rfl := Option.some.inj h
      clear h H hlt
      go_wp2
      go_ret
      exact ⟨rfl, HB.out⟩
theorem glob_Is.contains (k : Nat) (A : Option Addr) (c : Nat) (xs : List ByteArray) (r : Int) (w : World) (hr : Kd.C Kd.string w A xs.length xs) (hl : xs.length ≤ 1000) (h : glob_Is.bad k xs 0 = some r) :
    Calls Tryd.prog 47 #[.slice A xs.length c, .func (.func 48) #[] #[]] w fun e w' => e = .returned (.bool (decide (0 ≤ r))) ∧ Below w.heap.size w w' := by
  have C := Aside0.mk (glob_Is.index k A c xs r w hr hl h)
  clear hr h
  go_enter Tryd.func47, Tryd.ntmps47
  go_wp2_with (go_at_call 63; refine C.out.mono ?_; rintro e w' ⟨rfl, hb⟩; have HB2 := Aside0.mk hb; clear hb)
  go_ret
  exact ⟨rfl, HB2.out⟩
theorem glob_Is.calls (k : Nat) (a0 : ByteArray) (r : Bool) (w : World) (h : glob_Is.f k a0 = some r) :
    Calls Tryd.prog 29 #[.string a0] w fun e w' => e = .returned (.bool r) ∧ Below w.heap.size w w' := by
  unfold glob_Is.f at h
  split at h
  · rename_i hs
    obtain ⟨hs1, hs2⟩ := hs
    obtain ⟨i, hi, h⟩ := Option.bind_eq_some_iff.mp h
    obtain rfl := Option.some.inj h
    clear h
    have hlen := Lib.splitB_all (⟨#[47]⟩ : ByteArray) (Nat.le_refl 1) 0 _ a0 rfl
    have hle := Lib.countB_le (⟨#[47]⟩ : ByteArray) (Nat.le_refl 1) a0.size a0 (Nat.le_refl _)
    have S := Aside0.mk (strings_Split.calls a0 ⟨#[47]⟩ (Lib.splitB ⟨#[47]⟩ 0 (Lib.countB a0 ⟨#[47]⟩) a0) w (by unfold strings_Split.f; rw [if_pos ⟨rfl, by omega⟩]))
    have hl : (Lib.splitB ⟨#[47]⟩ 0 (Lib.countB a0 ⟨#[47]⟩) a0).length ≤ 1000 := by omega
    generalize Lib.splitB ⟨#[47]⟩ 0 (Lib.countB a0 ⟨#[47]⟩) a0 = xs at *
    have HI := Aside0.mk hi
    have s1 : decide ((1 : Int) ≤ (a0.size : Int)) = true := decide_eq_true (by omega)
    have s2 : decide ((a0.size : Int) ≤ 255) = true := decide_eq_true (by omega)
    clear hi hlen hle
    go_enter Tryd.func29, Tryd.ntmps29
    go_wp2_with (first
      | (go_at_call 35; refine S.out.mono ?_; rintro e w' ⟨v, rfl, hr, hb⟩; obtain ⟨A, c, rfl, _, hC⟩ := Kd.R_reads hr; have HC := Aside0.mk hC; have HB := Aside0.mk hb; clear hr hb hC)
      | (go_at_call 47; refine (glob_Is.contains k _ _ xs i _ HC.out hl HI.out).mono ?_; rintro e w' ⟨rfl, hb⟩; have HB2 := Aside0.mk hb; clear hb))
    go_ret
    exact ⟨by congr 2; by_cases hi : i < 0 <;> simp [hi] <;> omega, below_then HB.out HB.out.size HB2.out⟩
  · rename_i hs
    obtain rfl := Option.some.inj h
    clear h
    by_cases s : 1 ≤ a0.size
    · have s1 : decide ((1 : Int) ≤ (a0.size : Int)) = true := decide_eq_true (by omega)
      have s2 : decide ((a0.size : Int) ≤ 255) = false := decide_eq_false (by omega)
      go_enter Tryd.func29, Tryd.ntmps29
      go_wp2
      go_ret
      exact ⟨rfl, Below.refl _ _⟩
    · have s1 : decide ((1 : Int) ≤ (a0.size : Int)) = false := decide_eq_false (by omega)
      go_enter Tryd.func29, Tryd.ntmps29
      go_wp2
      go_ret
      exact ⟨rfl, Below.refl _ _⟩

end Go.Proofs.YtabimfpjdcggaaaDoor.X
