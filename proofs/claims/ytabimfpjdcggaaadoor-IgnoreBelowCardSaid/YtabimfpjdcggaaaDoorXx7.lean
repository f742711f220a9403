-- Written for this claim by a program of this session (wip/xprint.py) over the translation.
import Derived.Test.YtabimfpjdcggaaaDoorXx0
import Derived.Test.YtabimfpjdcggaaaDoorXx1
import Derived.Test.YtabimfpjdcggaaaDoorXx4
import Derived.Test.YtabimfpjdcggaaaDoorXx6
namespace Go.Proofs.YtabimfpjdcggaaaDoor.X
open Go.RowKit Go.Proofs.YtabimfpjdcggaaaDoorW.PrintWords Go.Proofs.YtabimfpjdcggaaaDoorW.PrintLast Go.Proofs.YtabimfpjdcggaaaDoorW.PrintMore
attribute [local go_sem] max2_int min2_int max_two min_two max_three min_three max_four min_four XBase.setCell_drewN   -- for this text's walks alone
set_option linter.unusedVariables false
set_option linter.unusedSimpArgs false

/-! ### ignore_Is: function 9 -/
/-- Do the rules ignore what is there. -/
def ignore_Is.says (k : Nat) (l : List S40) (q : ByteArray) (fo : Bool) : Option Bool :=
  (ignore_Last.f k l q fo).bind fun i => if 0 ≤ i then (if i < (l.length : Int) then some (!(rd_T40 l i).f2) else none) else some false
theorem ignore_Is.says_mono (k : Nat) (l : List S40) (q : ByteArray) (fo : Bool) : LeO (ignore_Is.says k l q fo) (ignore_Is.says (k + 1) l q fo) := by
  unfold ignore_Is.says
  exact LeO.bind (ignore_Last.mono l q fo k) fun _ => LeO.refl _
set_option maxHeartbeats 4000000 in
theorem ignore_Is.says_calls (k : Nat) (A : Option Addr) (c : Nat) (l : List S40) (q : ByteArray) (fo : Bool) (r : Bool) (B : Nat) (w : World) (hr : Kd.C k40 w A l.length l) (hc : l.length ≤ c)
    (hb : w.cell? ⟨B, 0, none⟩ = some (.slice A l.length c)) (h : ignore_Is.says k l q fo = some r) :
    Calls Tryd.prog 18 #[.string q, .bool fo, .pointer (some ⟨B, 0, none⟩)] w fun e w' => e = .returned (.bool r) ∧ Below w.heap.size w w' := by
  unfold ignore_Is.says at h
  obtain ⟨i, hi, h⟩ := Option.bind_eq_some_iff.mp h
  have C := Aside0.mk (ignore_Last.calls k A c l q fo i w hr hc hi)
  clear hi
  have HR := Aside0.mk hr
  clear hr hc
  by_cases h0 : 0 ≤ i
  · rw [if_pos h0] at h
    by_cases h1 : i < (l.length : Int)
    · rw [if_pos h1] at h
      obtain rfl := Option.some.inj h
      clear h
      obtain ⟨ad, hA, _, _, hx, _⟩ := at_T40 HR.out i h0 h1
      subst hA
      have HX := Aside0.mk hx
      clear hx
      go_enter Tryd.func18, Tryd.ntmps18
      go_wp2_with (go_at_call 8; refine C.out.mono ?_; rintro e w' ⟨rfl, hbb⟩; have HB := Aside0.mk hbb; have hb2 := (HB.out.cell (World.block_lt_of_cell? w _ hb)).trans hb; have hx2 := (HB.out.cell (World.block_lt_of_cell? w _ HX.out)).trans HX.out; clear hbb)
      go_ret
      exact ⟨rfl, HB.out⟩
    · rw [if_neg h1] at h
      cases h
  · rw [if_neg h0] at h
    obtain rfl := Option.some.inj h
    clear h
    have h0b : decide (0 ≤ i) = false := decide_eq_false h0
    go_enter Tryd.func18, Tryd.ntmps18
    go_wp2_with (go_at_call 8; refine C.out.mono ?_; rintro e w' ⟨rfl, hbb⟩; have HB := Aside0.mk hbb; have hb2 := (HB.out.cell (World.block_lt_of_cell? w _ hb)).trans hb; clear hbb)
    go_ret
    exact ⟨rfl, HB.out⟩
/-- The folders over a path, from the outermost one on. -/
def ignore_Is.dirs (p : ByteArray) (j : Nat) : List ByteArray := ((List.range j).filter fun (i : Nat) => decide (bt p (i : Int) = 47)).map fun (i : Nat) => p.extract 0 i
theorem ignore_Is.dirs_succ (p : ByteArray) (j : Nat) : ignore_Is.dirs p (j + 1) = ignore_Is.dirs p j ++ (if bt p j = 47 then [p.extract 0 j] else []) := by
  unfold ignore_Is.dirs
  rw [List.range_succ, List.filter_append, List.map_append]
  by_cases h : bt p j = 47 <;> simp [h]
theorem ignore_Is.dirs_pre (p : ByteArray) (j : Nat) : ∀ d, ignore_Is.dirs p j <+: ignore_Is.dirs p (j + d)
  | 0 => List.prefix_refl _
  | d + 1 => (ignore_Is.dirs_pre p j d).trans (by rw [← Nat.add_assoc, ignore_Is.dirs_succ p (j + d)]; exact List.prefix_append _ _)
theorem ignore_Is.dirs_len (p : ByteArray) (j : Nat) : (ignore_Is.dirs p j).length ≤ j := by
  unfold ignore_Is.dirs
  rw [List.length_map]
  exact Nat.le_trans (List.length_filter_le _ _) (by rw [List.length_range]; exact Nat.le_refl _)
set_option maxHeartbeats 4000000 in
theorem ignore_Is.up_calls (p : ByteArray) (w : World) :
    Calls Tryd.prog 19 #[.string p] w fun e w' => e = .returned (.func (.func 37) #[] #[.pointer (some ⟨w.heap.size, 0, none⟩)]) ∧ w' = w.alloc (.cells #[.string p] 9) := by
  go_enter Tryd.func19, Tryd.ntmps19
  go_wp2
  go_ret
  exact ⟨rfl, rfl⟩
set_option maxHeartbeats 4000000 in
theorem ignore_Is.up_stops (Pq : ByteArray → Prop) (p : ByteArray) (hall : ∀ q, q ∈ ignore_Is.dirs p p.size → Pq q) (hp : p.size ≤ 1000000) (B n₀ : Nat) (hn : B < n₀) (w0 : World) (hn0 : n₀ ≤ w0.heap.size) (hb : w0.cell? ⟨B, 0, none⟩ = some (.string p)) :
    SeqStopsK Fence.wide 4 Tryd.prog 37 #[.pointer (some ⟨B, 0, none⟩)] (fun x : {q : ByteArray // Pq q} => #[.string x.1]) (Below n₀) (fun xs => xs.map (·.1) = ignore_Is.dirs p p.size) (fun pre => pre.map (·.1) <+: ignore_Is.dirs p p.size) (ignore_Is.dirs p p.size).length w0 := by
  intro l J Jx W hW hJ hJx hY h0
  have hBW : W.cell? ⟨B, 0, none⟩ = some (.string p) := (hW.cell (p := ⟨B, 0, none⟩) (show B < w0.heap.size by omega)).trans hb
  refine callsIn_of_wp Tryd.func37 rfl trivial ?_ rfl
  simp only [Tryd.ntmps37, List.size_toArray, List.length_cons, List.length_nil, Nat.reduceAdd, Nat.reduceSub, Array.replicate_succ, Array.replicate_zero, List.push_toArray, List.append_toArray, List.nil_append, List.cons_append]
  have s1 : decide ((p.size : Int) ≤ 9223372036854775807) = true := decide_eq_true (by omega)
  gi_wp2
  gi_loopw [6] (fun v6 wr => ∃ j : Nat, v6 = .int .i64 j ∧ j ≤ p.size ∧ (∃ pre, pre.map (·.1) = ignore_Is.dirs p j ∧ J pre wr) ∧ Below n₀ W wr) (fun v6 _ => p.size - (intOf v6).toNat)
  case atStart => exact ⟨0, rfl, Nat.zero_le _, ⟨[], rfl, h0⟩, Below.refl _ _⟩
  case round =>
    obtain ⟨j, rfl, hj, ⟨pre, hpre, hJs⟩, hBl⟩ := hrel
    have hcB : wr.cell? ⟨B, 0, none⟩ = some (.string p) := (hBl.cell (p := ⟨B, 0, none⟩) hn).trans hBW
    by_cases hlt : j < p.size
    · have hltz : ((j : Nat) : Int) < (p.size : Int) := by omega
      have hx : ((p[j]).toNat : Int) = bt p (j : Int) := bt_at p (j : Int) hlt
      by_cases hq : bt p j = 47
      · have hd := ignore_Is.dirs_succ p j
        rw [if_pos hq] at hd
        have hlen : (ignore_Is.dirs p j).length < (ignore_Is.dirs p p.size).length := by
          have h1 := (ignore_Is.dirs_pre p (j + 1) (p.size - (j + 1))).length_le
          rw [show j + 1 + (p.size - (j + 1)) = p.size by omega, hd, List.length_append] at h1
          simp at h1
          omega
        have hPx : Pq (p.extract 0 j) := hall _ (by
          have h1 := (ignore_Is.dirs_pre p (j + 1) (p.size - (j + 1))).subset
          rw [show j + 1 + (p.size - (j + 1)) = p.size by omega, hd] at h1
          exact h1 (by simp))
        have hlen2 : pre.length < (ignore_Is.dirs p p.size).length := by rw [← List.length_map (f := fun x : {q : ByteArray // Pq q} => x.1), hpre]; exact hlen
        obtain ⟨fn, tmps, assign, body, hy, hR⟩ := hY pre ⟨p.extract 0 j, hPx⟩ wr hJs hlen2
        have HPre : Aside0 ((pre ++ [(⟨p.extract 0 j, hPx⟩ : {q : ByteArray // Pq q})]).map (·.1) = ignore_Is.dirs p (j + 1)) := ⟨by rw [List.map_append, hpre, hd]; rfl⟩
        clear hpre hlen2
        have HD := Aside0.mk hd
        have HP := Aside0.mk (ignore_Is.dirs_pre p (j + 1) (p.size - (j + 1)))
        clear hd hlen
        gi_wp2
        refine hR.mono ?_
        rintro e W3 (⟨rfl, hJ3, hk3⟩ | ⟨rfl, hJx3⟩)
        · have hcB3 : W3.cell? ⟨B, 0, none⟩ = some (.string p) := (hk3.cell (p := ⟨B, 0, none⟩) hn).trans hcB
          gi_wp2
          go_roundw
          case rel => exact ⟨j + 1, by go_num, by omega, ⟨_, HPre.out, hJ3⟩, hBl.trans hk3⟩
          case measure => simp [intOf]; omega
        · gi_wp2
          refine bodyPost_ret (results_none rfl _ _ _) rfl ?_
          refine ⟨⟨_, rfl⟩, .inr ⟨_, ?_, hJx3⟩⟩
          rw [HPre.out]
          have := HP.out
          rw [show j + 1 + (p.size - (j + 1)) = p.size by omega] at this
          exact this
      · have hd := ignore_Is.dirs_succ p j
        rw [if_neg hq, List.append_nil] at hd
        rw [← hd] at hpre
        clear hd
        have HPre := Aside0.mk hpre
        clear hpre
        have hqb : (bt p j == 47) = false := beq_eq_false_iff_ne.2 hq
        gi_wp2
        refine ⟨fun _ h => (by cases h), ?_⟩
        gi_wp2
        go_roundw
        case rel => exact ⟨j + 1, by go_num, by omega, ⟨_, HPre.out, hJs⟩, hBl⟩
        case measure => simp [intOf]; omega
    · obtain rfl : j = p.size := by omega
      have HPre := Aside0.mk hpre
      clear hpre
      gi_wp2
      go_end0
      exact ⟨⟨_, rfl⟩, .inl ⟨_, HPre.out, hJs⟩⟩
/-- Is one of the folders ignored, from the outermost one on. -/
def ignore_Is.scan (k : Nat) (l : List S40) : List ByteArray → Option Bool
  | [] => some false
  | q :: qs => (ignore_Is.says k l q true).bind fun b => if b = true then some true else ignore_Is.scan k l qs
theorem ignore_Is.scan_mono (k : Nat) (l : List S40) : ∀ qs, LeO (ignore_Is.scan k l qs) (ignore_Is.scan (k + 1) l qs)
  | [] => LeO.refl _
  | q :: qs => by
    unfold ignore_Is.scan
    exact LeO.bind (ignore_Is.says_mono k l q true) fun _ => LeO.ite (LeO.refl _) (ignore_Is.scan_mono k l qs)
def ignore_Is.f (k : Nat) (l0 : List S40) (a1 : ByteArray) (a2 : Bool) : Option Bool :=
  if a1.size ≤ 1000000 ∧ (∀ q, q ∈ ignore_Is.dirs a1 a1.size → (ignore_Is.says k l0 q true).isSome = true) then (path_Is.f k a1).bind fun b => if b = true then ((ignore_Is.scan k l0 (ignore_Is.dirs a1 a1.size)).bind fun b => if b = true then some true else ignore_Is.says k l0 a1 a2) else some false else none
theorem ignore_Is.mono : ∀ l0 a1 a2 k, LeO (ignore_Is.f k l0 a1 a2) (ignore_Is.f (k + 1) l0 a1 a2) := by
  intro l0 a1 a2 k
  have hm : LeO ((path_Is.f k a1).bind fun b => if b = true then ((ignore_Is.scan k l0 (ignore_Is.dirs a1 a1.size)).bind fun b => if b = true then some true else ignore_Is.says k l0 a1 a2) else some false) ((path_Is.f (k + 1) a1).bind fun b => if b = true then ((ignore_Is.scan (k + 1) l0 (ignore_Is.dirs a1 a1.size)).bind fun b => if b = true then some true else ignore_Is.says (k + 1) l0 a1 a2) else some false) := (LeO.bind (path_Is.mono a1 k) fun _ => LeO.ite (LeO.bind (ignore_Is.scan_mono k l0 _) fun _ => LeO.ite (LeO.refl _) (ignore_Is.says_mono k l0 a1 a2)) (LeO.refl _))
  unfold ignore_Is.f
  intro r h
  split at h
  · rename_i hc
    rw [if_pos ⟨hc.1, fun q hq => by
      have h1 := hc.2 q hq
      cases h2 : ignore_Is.says k l0 q true with
      | none => rw [h2] at h1; cases h1
      | some b => rw [ignore_Is.says_mono k l0 q true b h2]; rfl⟩]
    exact hm r h
  · cases h
theorem ignore_Is.scan_split (k : Nat) (l : List S40) : ∀ (pre rest : List ByteArray) (r : Bool), (∀ q, q ∈ pre → ignore_Is.says k l q true = some false) → ignore_Is.scan k l (pre ++ rest) = some r → ignore_Is.scan k l rest = some r
  | [], rest, r, _, h => h
  | q :: pre, rest, r, hq, h => by
    simp only [List.cons_append, ignore_Is.scan, hq q List.mem_cons_self, Option.bind_some] at h
    exact ignore_Is.scan_split k l pre rest r (fun q' h' => hq q' (List.mem_cons_of_mem _ h')) (by simpa using h)
attribute [local go_sem] Oper.semAt_some
set_option maxHeartbeats 4000000 in
theorem ignore_Is.calls (k : Nat) (A0 : Option Addr) (c0 : Nat) (l0 : List (S40)) (a1 : ByteArray) (a2 : Bool) (r : Bool) (w : World) (hr0 : Kd.C k40 w A0 l0.length l0) (hc0 : l0.length ≤ c0) (h : ignore_Is.f k l0 a1 a2 = some r) :
    Calls Tryd.prog 9 #[.slice A0 l0.length c0, .string a1, .bool a2] w fun e w' => e = .returned (.bool r) ∧ Below w.heap.size w w' := by
  unfold ignore_Is.f at h
  split at h
  case isFalse => cases h
  rename_i hg
  obtain ⟨hsz, hall⟩ := hg
  obtain ⟨b, hb, h⟩ := Option.bind_eq_some_iff.mp h
  have HR := Aside0.mk hr0
  have HC := Aside0.mk hc0
  have PI := Aside0.mk (fun W => path_Is.calls k a1 b W hb)
  clear hr0 hc0 hb
  cases b with
  | false =>
    obtain rfl : r = false := by simpa using h.symm
    clear h
    go_enter Tryd.func9, Tryd.ntmps9
    go_wp2_with (go_at_call 17; refine (PI.out _).mono ?_; rintro e w' ⟨rfl, hbb⟩; have HB := Aside0.mk hbb; obtain ⟨hc1, hf1⟩ := XBase.bcell hbb; clear hbb)
    exact bodyPost_ret (v := .bool false) (by simp [results, Tryd.results9, go_sem, hc1, hf1]) rfl ⟨rfl, (below_then (below_alloc (below_alloc (Below.refl _ _) _) _) (by simp; omega) HB.out).setCell (p := ⟨w.heap.size + 1, 0, none⟩) (by simp) _⟩
  | true =>
    have h2 : ((ignore_Is.scan k l0 (ignore_Is.dirs a1 a1.size)).bind fun b => if b = true then some true else ignore_Is.says k l0 a1 a2) = some r := by simpa using h
    clear h
    have H := Aside0.mk h2
    clear h2
    refine (callsIn_wide (n := 5)).1 ?_
    refine callsIn_of_wp_marks Tryd.func9 rfl trivial ?_ rfl
    simp only [Tryd.ntmps9, List.size_toArray, List.length_cons, List.length_nil, Nat.reduceAdd, Nat.reduceSub, Array.replicate_succ, Array.replicate_zero, List.push_toArray, List.append_toArray, List.nil_append, List.cons_append]
    gi_wp2_with (first
      | (refine ⟨trivial, ?_⟩; gi_at_call 17; refine (callsIn_wide.2 (PI.out _)).mono ?_; rintro e w' ⟨rfl, hbb⟩; have HB := Aside0.mk hbb; obtain ⟨hc1, hf1⟩ := XBase.bcell hbb; clear hbb)
      | (refine ⟨trivial, ?_⟩; gi_at_call 19; refine (callsIn_wide.2 (ignore_Is.up_calls a1 _)).mono ?_; rintro e w2 ⟨rfl, hw⟩; rw [hw]; clear hw))
    have hsz1 : w.heap.size + 2 ≤ w'.heap.size := by have := HB.out.size; simp at this; omega
    have hB1 : Below w.heap.size w w' := below_then (below_alloc (below_alloc (Below.refl _ _) _) _) (by simp; omega) HB.out
    have cA : w'.cell? ⟨w.heap.size, 0, none⟩ = some (.slice A0 l0.length c0) := by rw [hc1 _ _ (by simp; omega)]; simp [go_sem]
    have cR : w'.cell? ⟨w.heap.size + 1, 0, none⟩ = some (.bool false) := by rw [hc1 _ _ (by simp)]; simp [go_sem]
    have fR : w'.frozen? ⟨w.heap.size + 1, 0, none⟩ = false := by rw [hf1 _ _ (by simp)]; simp [go_sem]
    clear hc1 hf1 HB
    generalize hS : ((w'.alloc (Obj.cells #[Value.func (Fn.func 18) #[] #[Value.pointer (some { block := w.heap.size, off := 0 })]] 45)).alloc (Obj.cells #[Value.string a1] 9)) = S
    have hSs : S.heap.size = w'.heap.size + 2 := by rw [← hS]; simp
    have hSw : Below w'.heap.size w' S := by rw [← hS]; exact below_alloc (below_alloc (Below.refl _ _) _) _
    have cF : S.cell? ⟨w'.heap.size, 0, none⟩ = some (Value.func (Fn.func 18) #[] #[Value.pointer (some { block := w.heap.size, off := 0 })]) := by rw [← hS]; simp [go_sem]
    have cP : S.cell? ⟨w'.heap.size + 1, 0, none⟩ = some (Value.string a1) := by rw [← hS]; simp [go_sem]
    have cA2 := (hSw.cell (World.block_lt_of_cell? w' _ cA)).trans cA
    have cR2 := (hSw.cell (World.block_lt_of_cell? w' _ cR)).trans cR
    have fR2 := (hSw.frozen (p := ⟨w.heap.size + 1, 0, none⟩) (show w.heap.size + 1 < w'.heap.size by omega)).trans fR
    have hB2 : Below w.heap.size w S := below_then hB1 (by omega) hSw
    have HS := Aside0.mk hS
    clear hS cA cR fR hB1 hSw
    refine wpIn_rangeFunc_ownF rfl (by omega) (gf := 37) (lb := #[.pointer (some ⟨w'.heap.size + 1, 0, none⟩)]) rfl trivial (enters_of Tryd.func37 (by kernel_rfl) rfl)
      (ignore_Is.up_stops (fun q => (ignore_Is.says k l0 q true).isSome = true) a1 hall hsz (w'.heap.size + 1) (w'.heap.size + 2) (by omega) S (by omega) cP) belowK_t (belowK_b (by omega)) (Below.refl _ _) (fun _ => rfl)
      (fun (pre : List {q : ByteArray // (ignore_Is.says k l0 q true).isSome = true}) W => (W.cell? ⟨w.heap.size, 0, none⟩ = some (.slice A0 l0.length c0) ∧ W.cell? ⟨w.heap.size + 1, 0, none⟩ = some (.bool false) ∧ W.frozen? ⟨w.heap.size + 1, 0, none⟩ = false ∧ W.cell? ⟨w'.heap.size, 0, none⟩ = some (Value.func (Fn.func 18) #[] #[Value.pointer (some { block := w.heap.size, off := 0 })]) ∧ (∀ q, q ∈ pre.map (·.1) → ignore_Is.says k l0 q true = some false) ∧ S.heap.size ≤ W.heap.size) ∧ Below w.heap.size w W)
      (fun c (pre : List {q : ByteArray // (ignore_Is.says k l0 q true).isSome = true}) W => (c = .ret ∧ W.cell? ⟨w.heap.size + 1, 0, none⟩ = some (.bool true) ∧ W.frozen? ⟨w.heap.size + 1, 0, none⟩ = false ∧ (∃ pre' q, pre.map (·.1) = pre' ++ [q] ∧ (∀ q, q ∈ pre' → ignore_Is.says k l0 q true = some false) ∧ ignore_Is.says k l0 q true = some true)) ∧ Below w.heap.size w W)
      (OwnFrom.and (Own.from (fun s A B row hs hg hr => ⟨cell_kept hs.1 hg hr, cell_kept hs.2.1 hg hr, (frozen_kept hs.2.1 hg hr).trans hs.2.2.1, cell_kept hs.2.2.2.1 hg hr, hs.2.2.2.2.1, Nat.le_trans hs.2.2.2.2.2 hg.size⟩) _) (ownFrom_below (Nat.le_refl _) (by omega)))
      (fun c => OwnFrom.and (Own.from (fun s A B row hs hg hr => ⟨hs.1, cell_kept hs.2.1 hg hr, (frozen_kept hs.2.1 hg hr).trans hs.2.2.1, hs.2.2.2⟩) _) (ownFrom_below (Nat.le_refl _) (by omega)))
      ⟨⟨cA2, cR2, fR2, cF, fun q h => by simp at h, Nat.le_refl _⟩, hB2⟩
      (fun x => { tmps := #[.slice A0 l0.length c0, .string a1, .bool a2, .pointer (some ⟨w.heap.size, 0, none⟩), undef, undef, .pointer (some ⟨w.heap.size + 1, 0, none⟩), .pointer (some ⟨w'.heap.size, 0, none⟩), .string x.1, .string a1, .bool true, .bool false, Value.func (Fn.func 18) #[] #[Value.pointer (some { block := w.heap.size, off := 0 })], .string a1, .func (.func 37) #[] #[.pointer (some ⟨w'.heap.size + 1, 0, none⟩)], .string x.1, undef, undef, undef, undef, undef, undef, undef], defers := [] }) ?assign ?body ?done ?stop
    case assign =>
      intro l x W K hK
      gi_wp2
      exact hK
    case body =>
      rintro l pre x W ⟨⟨wA, wR, wfR, wF, hpre, hsz2⟩, hBW⟩ _
      have hRW := Kd.C_below HR.out hBW
      have hx := x.2
      obtain ⟨bb, hbb⟩ := Option.isSome_iff_exists.mp hx
      have SC := Aside0.mk (ignore_Is.says_calls k A0 c0 l0 x.1 true bb w.heap.size W hRW HC.out wA hbb)
      have HP := Aside0.mk hpre
      clear hRW hpre hx
      cases bb with
      | false =>
        gi_wp2_with (refine ⟨trivial, ?_⟩; gi_at_call 18; refine (CallsIn.inRound l (callsIn_wide.2 SC.out)).mono ?_; rintro e w3 ⟨rfl, hb3⟩; have HB3 := Aside0.mk hb3; clear hb3)
        have hb3 := HB3.out
        exact ⟨⟨hb3.size, fun k o hk _ => (hb3.block k (Array.getElem?_eq_some_iff.1 hk).1).trans hk⟩, hb3.mono (by omega), ⟨(hb3.cell (World.block_lt_of_cell? W _ wA)).trans wA, (hb3.cell (World.block_lt_of_cell? W _ wR)).trans wR, (hb3.frozen (World.block_lt_of_cell? W _ wR)).trans wfR, (hb3.cell (World.block_lt_of_cell? W _ wF)).trans wF, fun q hq => by
          rw [List.map_append, List.mem_append] at hq
          rcases hq with hq | hq
          · exact HP.out q hq
          · simp at hq; rw [hq]; exact hbb, Nat.le_trans hsz2 hb3.size⟩, below_then hBW (by omega) hb3⟩
      | true =>
        gi_wp2_with (refine ⟨trivial, ?_⟩; gi_at_call 18; refine (CallsIn.inRound l (callsIn_wide.2 SC.out)).mono ?_; rintro e w3 ⟨rfl, hb3⟩; have HB3 := Aside0.mk hb3; have r3 := (hb3.cell (World.block_lt_of_cell? W _ wR)).trans wR; have f3 := (hb3.frozen (World.block_lt_of_cell? W _ wR)).trans wfR; clear hb3)
        have hb3 := HB3.out
        refine ⟨KeepsOthers.trans ⟨hb3.size, fun k o hk _ => (hb3.block k (Array.getElem?_eq_some_iff.1 hk).1).trans hk⟩ (KeepsOthers.setCell _ _ _), ⟨rfl, World.cell?_setCell_same' _ _ _ (by rw [r3]; rfl), by rw [World.frozen?_setCell]; exact f3, _, _, List.map_append .., HP.out, hbb⟩, (below_then hBW (by omega) hb3).setCell (p := ⟨w.heap.size + 1, 0, none⟩) (by simp) _⟩
    case done =>
      rintro D xs W hD hxs ⟨⟨wA, wR, wfR, wF, hpre, hsz2⟩, hBW⟩ hK
      have hRW := Kd.C_below HR.out hBW
      have h := H.out
      have hsc : ignore_Is.scan k l0 (ignore_Is.dirs a1 a1.size) = some false := by
        cases hs : ignore_Is.scan k l0 (ignore_Is.dirs a1 a1.size) with
        | none => rw [hs] at h; cases h
        | some b => 
          have := ignore_Is.scan_split k l0 (ignore_Is.dirs a1 a1.size) [] b (by rw [← hxs]; exact hpre) (by rw [List.append_nil]; exact hs)
          exact this.symm
      rw [hsc] at h
      have h2 : ignore_Is.says k l0 a1 a2 = some r := by simpa using h
      have SC := Aside0.mk (ignore_Is.says_calls k A0 c0 l0 a1 a2 r w.heap.size W hRW HC.out wA h2)
      have HD := Aside0.mk hK
      have HBW := Aside0.mk hBW
      clear h h2 hsc hxs hpre hRW hBW hK
      gi_wp2_with (refine ⟨trivial, ?_⟩; gi_at_call 18; refine (callsIn_wide.2 SC.out).mono ?_; rintro e w3 ⟨rfl, hb3⟩; have HB3 := Aside0.mk hb3; have r3 := (hb3.cell (World.block_lt_of_cell? W _ wR)).trans wR; have f3 := (hb3.frozen (World.block_lt_of_cell? W _ wR)).trans wfR; clear hb3)
      have hb3 := HB3.out
      have hD3 : (w3.setCell ⟨w.heap.size + 1, 0, none⟩ (.bool r)).heap[D]? = some (.deferred (some [])) :=
        (KeepsOthers.setCell w3 ⟨w.heap.size + 1, 0, none⟩ (.bool r)).same D _ ((hb3.block D (Array.getElem?_eq_some_iff.1 HD.out).1).trans HD.out) rfl
      have hcR : (w3.setCell ⟨w.heap.size + 1, 0, none⟩ (.bool r)).cell? ⟨w.heap.size + 1, 0, none⟩ = some (.bool r) := World.cell?_setCell_same' _ _ _ (by rw [r3]; rfl)
      refine ⟨by simp, .inl ⟨_, _, rfl, run_takeDeferred hD3, ?_⟩⟩
      have hcR2 := cell_kept hcR (grownBy_putObj' _ D (.deferred none)) (fun r e => by cases e; exact ⟨_, hD3, rfl⟩)
      exact ⟨.bool r, by simp [results, Tryd.results9, go_sem, hcR2], rfl, ((below_then HBW.out (by omega) hb3).setCell (p := ⟨w.heap.size + 1, 0, none⟩) (by simp) _).trans (belowK_b (w := w) (Nat.le_refl _) _ D _ _ (by omega) hD3 rfl rfl)⟩
    case stop =>
      rintro D c pre W hD hpre ⟨⟨rfl, wR, wfR, hx⟩, hBW⟩ hK
      obtain ⟨pre', q, hq, hf, ht⟩ := hx
      have hr : r = true := by
        have h := H.out
        obtain ⟨rest, hrest⟩ := hpre
        rw [← hrest, hq] at h
        cases hs : ignore_Is.scan k l0 (pre' ++ [q] ++ rest) with
        | none => rw [hs] at h; cases h
        | some b =>
          have h3 := hs
          rw [List.append_assoc] at h3
          have := ignore_Is.scan_split k l0 pre' _ b hf h3
          simp only [List.cons_append, ignore_Is.scan, ht, Option.bind_some, if_pos] at this
          rw [← Option.some.inj this] at hs
          rw [hs] at h
          simpa using h.symm
      subst hr
      clear hq hf ht H hpre
      gi_wp2
      refine ⟨by simp, .inl ⟨_, _, rfl, run_takeDeferred hK, ?_⟩⟩
      have hcR2 := cell_kept wR (grownBy_putObj' _ D (.deferred none)) (fun r e => by cases e; exact ⟨_, hK, rfl⟩)
      exact ⟨.bool true, by simp [results, Tryd.results9, go_sem, hcR2], rfl, hBW.trans (belowK_b (w := w) (Nat.le_refl _) _ D _ _ (by omega) hK rfl rfl)⟩

/-! ### graftagelaw30_lives: function 6 -/
def graftagelaw30_lives.f (k : Nat)  : Option (Bool) := (ignore_Parse.f k (⟨#[42, 46, 111, 10, 33, 97, 46, 111, 10, 47, 98, 47, 10, 99, 47, 100, 10]⟩ : ByteArray) (⟨#[]⟩ : ByteArray)).bind fun t199 => (if (t199.length : Int) = 4 then ((ignore_Is.f k t199 (⟨#[120, 46, 111]⟩ : ByteArray) false).bind fun t202 => (if t202 = true then ((ignore_Is.f k t199 (⟨#[97, 46, 111]⟩ : ByteArray) false).bind fun t203 => (if t203 = true then (some false) else ((ignore_Is.f k t199 (⟨#[98, 47, 120]⟩ : ByteArray) false).bind fun t204 => (if t204 = true then ((ignore_Is.f k t199 (⟨#[121, 47, 98, 47, 120]⟩ : ByteArray) false).bind fun t205 => (if t205 = true then (some false) else ((ignore_Is.f k t199 (⟨#[99, 47, 100]⟩ : ByteArray) false).bind fun t206 => (if t206 = true then ((ignore_Is.f k t199 (⟨#[120, 47, 99, 47, 100]⟩ : ByteArray) false).bind fun t207 => (some (!t207))) else (some false))))) else (some false))))) else (some false))) else (some false))
theorem graftagelaw30_lives.mono : ∀ k, LeO (graftagelaw30_lives.f k ) (graftagelaw30_lives.f (k + 1) ) := by
  intro  k
  unfold graftagelaw30_lives.f
  repeat' first
      | (with_reducible exact ignore_Is.mono _ _ _ _)
      | (with_reducible exact ignore_Parse.mono _ _ _)
      | (with_reducible exact LeO.refl _)
      | (with_reducible exact LeO.none _)
      | (with_reducible refine LeO.ite ?_ ?_)
      | (with_reducible refine LeO.bind ?_ (fun _ => ?_))
      | exact ignore_Is.mono _ _ _ _
      | exact ignore_Parse.mono _ _ _
      | exact LeO.none _
      | refine LeO.ite ?_ ?_
      | refine LeO.bind ?_ (fun _ => ?_)
set_option maxHeartbeats 8000000 in
set_option maxRecDepth 100000 in
theorem graftagelaw30_lives.calls (k : Nat)  (r : Bool) (w : World) (h : graftagelaw30_lives.f k  = some r) :
    Calls Tryd.prog 6 #[] w fun e w' => e = .returned (.bool r) ∧ Below w.heap.size w w' := by
  have HB := Aside0.mk (Below.refl w.heap.size w)
  have H : ((ignore_Parse.f k (⟨#[42, 46, 111, 10, 33, 97, 46, 111, 10, 47, 98, 47, 10, 99, 47, 100, 10]⟩ : ByteArray) (⟨#[]⟩ : ByteArray)).bind fun t199 => (if (t199.length : Int) = 4 then ((ignore_Is.f k t199 (⟨#[120, 46, 111]⟩ : ByteArray) false).bind fun t202 => (if t202 = true then ((ignore_Is.f k t199 (⟨#[97, 46, 111]⟩ : ByteArray) false).bind fun t203 => (if t203 = true then (some false) else ((ignore_Is.f k t199 (⟨#[98, 47, 120]⟩ : ByteArray) false).bind fun t204 => (if t204 = true then ((ignore_Is.f k t199 (⟨#[121, 47, 98, 47, 120]⟩ : ByteArray) false).bind fun t205 => (if t205 = true then (some false) else ((ignore_Is.f k t199 (⟨#[99, 47, 100]⟩ : ByteArray) false).bind fun t206 => (if t206 = true then ((ignore_Is.f k t199 (⟨#[120, 47, 99, 47, 100]⟩ : ByteArray) false).bind fun t207 => (some (!t207))) else (some false))))) else (some false))))) else (some false))) else (some false))) = some r := h
  clear h
  replace H := Option.bind_eq_some_iff.mp H
  obtain ⟨t199, A10, H⟩ := H
  replace H : (if (t199.length : Int) = 4 then ((ignore_Is.f k t199 (⟨#[120, 46, 111]⟩ : ByteArray) false).bind fun t202 => (if t202 = true then ((ignore_Is.f k t199 (⟨#[97, 46, 111]⟩ : ByteArray) false).bind fun t203 => (if t203 = true then (some false) else ((ignore_Is.f k t199 (⟨#[98, 47, 120]⟩ : ByteArray) false).bind fun t204 => (if t204 = true then ((ignore_Is.f k t199 (⟨#[121, 47, 98, 47, 120]⟩ : ByteArray) false).bind fun t205 => (if t205 = true then (some false) else ((ignore_Is.f k t199 (⟨#[99, 47, 100]⟩ : ByteArray) false).bind fun t206 => (if t206 = true then ((ignore_Is.f k t199 (⟨#[120, 47, 99, 47, 100]⟩ : ByteArray) false).bind fun t207 => (some (!t207))) else (some false))))) else (some false))))) else (some false))) else (some false)) = some r := H
  have A1 := Aside0.mk A10
  clear A10
  by_cases c2 : (t199.length : Int) = 4
  · rw [if_pos c2] at H
    have c2b0 : ((t199.length : Int) == 4) = true := beq_iff_eq.mpr c2
    have c2b1 : ((t199.length : Int) != 4) = false := bne_eq_false_iff_eq.mpr c2
    clear c2
    replace H := Option.bind_eq_some_iff.mp H
    obtain ⟨t202, A30, H⟩ := H
    replace H : (if t202 = true then ((ignore_Is.f k t199 (⟨#[97, 46, 111]⟩ : ByteArray) false).bind fun t203 => (if t203 = true then (some false) else ((ignore_Is.f k t199 (⟨#[98, 47, 120]⟩ : ByteArray) false).bind fun t204 => (if t204 = true then ((ignore_Is.f k t199 (⟨#[121, 47, 98, 47, 120]⟩ : ByteArray) false).bind fun t205 => (if t205 = true then (some false) else ((ignore_Is.f k t199 (⟨#[99, 47, 100]⟩ : ByteArray) false).bind fun t206 => (if t206 = true then ((ignore_Is.f k t199 (⟨#[120, 47, 99, 47, 100]⟩ : ByteArray) false).bind fun t207 => (some (!t207))) else (some false))))) else (some false))))) else (some false)) = some r := H
    have A3 := Aside0.mk A30
    clear A30
    by_cases c4 : t202 = true
    · subst c4
      have H1 : ((ignore_Is.f k t199 (⟨#[97, 46, 111]⟩ : ByteArray) false).bind fun t203 => (if t203 = true then (some false) else ((ignore_Is.f k t199 (⟨#[98, 47, 120]⟩ : ByteArray) false).bind fun t204 => (if t204 = true then ((ignore_Is.f k t199 (⟨#[121, 47, 98, 47, 120]⟩ : ByteArray) false).bind fun t205 => (if t205 = true then (some false) else ((ignore_Is.f k t199 (⟨#[99, 47, 100]⟩ : ByteArray) false).bind fun t206 => (if t206 = true then ((ignore_Is.f k t199 (⟨#[120, 47, 99, 47, 100]⟩ : ByteArray) false).bind fun t207 => (some (!t207))) else (some false))))) else (some false))))) = some r := by rw [if_pos rfl] at H; exact H
      clear H
      have H := H1
      clear H1
      replace H := Option.bind_eq_some_iff.mp H
      obtain ⟨t203, A50, H⟩ := H
      replace H : (if t203 = true then (some false) else ((ignore_Is.f k t199 (⟨#[98, 47, 120]⟩ : ByteArray) false).bind fun t204 => (if t204 = true then ((ignore_Is.f k t199 (⟨#[121, 47, 98, 47, 120]⟩ : ByteArray) false).bind fun t205 => (if t205 = true then (some false) else ((ignore_Is.f k t199 (⟨#[99, 47, 100]⟩ : ByteArray) false).bind fun t206 => (if t206 = true then ((ignore_Is.f k t199 (⟨#[120, 47, 99, 47, 100]⟩ : ByteArray) false).bind fun t207 => (some (!t207))) else (some false))))) else (some false)))) = some r := H
      have A5 := Aside0.mk A50
      clear A50
      by_cases c6 : t203 = true
      · subst c6
        have H1 : (some false) = some r := by rw [if_pos rfl] at H; exact H
        clear H
        have H := H1
        clear H1
        obtain rfl := Option.some.inj H
        go_enter Tryd.func6, Tryd.ntmps6
        go_wp2_with (first | ((with_reducible refine gate_callee (f := 7) rfl ?_); refine goesL_ (some 2) rfl rfl Tryd.func7 (by kernel_rfl) rfl #[.string (⟨#[42, 46, 111, 10, 33, 97, 46, 111, 10, 47, 98, 47, 10, 99, 47, 100, 10]⟩ : ByteArray), .string (⟨#[]⟩ : ByteArray)] rfl (by (try simp only [List.map_toArray, List.map_cons, List.map_nil]); first | done | rfl | (simp only [List.length_drop, List.length_take]; rfl)) ?_; (with_reducible refine (ignore_Parse.calls k (⟨#[42, 46, 111, 10, 33, 97, 46, 111, 10, 47, 98, 47, 10, 99, 47, 100, 10]⟩ : ByteArray) (⟨#[]⟩ : ByteArray) t199 _ A1.out).mono ?_); rintro e w7 ⟨v200, rfl, ho0, hb⟩; refine ⟨_, rfl, ?_⟩; have n0_ := Aside0.mk (Kd.R_lower ho0 (below_size (by repeat (first | (with_reducible first | exact HB.out | apply below_alloc | apply pw_below_drewN | apply below_drew1) | exact HB.out)))); have n1_ := Aside0.mk (below_step (by repeat (first | (with_reducible first | exact HB.out | apply below_alloc | apply pw_below_drewN | apply below_drew1) | exact HB.out)) hb); clear HB; have HO201 := n0_; have HB := n1_; clear n0_ n1_; (try clear hb); (try clear hb2); (try clear hk); (try clear hi); (try clear ho0); obtain ⟨Ao8, co8, eo8⟩ := Kd.R_slice HO201.out; subst eo8) | (go_at_call 9; (with_reducible refine (ignore_Is.calls k _ _ t199 (⟨#[120, 46, 111]⟩ : ByteArray) false true _ ?side1 ?side2 A3.out).mono ?_); (case side1 => repeat (first | exact (Kd.R_reads' HO201.out).2.2 | (with_reducible refine Kd.C_alloc ?_ _) | (with_reducible refine Kd.C_drewN ?_ _) | (with_reducible refine Kd.C_drew ?_))); (case side2 => exact (Kd.R_reads' HO201.out).2.1); rintro e w9 ⟨rfl, hb⟩; have n0_ := Aside0.mk (Kd.R_below (by (with_reducible repeat (first | apply Kd.R_alloc | apply Kd.R_drewN | apply Kd.R_drew)); exact HO201.out) hb); have n1_ := Aside0.mk (below_step (by repeat (first | (with_reducible first | exact HB.out | apply below_alloc | apply pw_below_drewN | apply below_drew1) | exact HB.out)) hb); clear HO201; clear HB; have HO201 := n0_; have HB := n1_; clear n0_ n1_; (try clear hb); (try clear hb2); (try clear hk); (try clear hi)) | (go_at_call 9; (with_reducible refine (ignore_Is.calls k _ _ t199 (⟨#[97, 46, 111]⟩ : ByteArray) false true _ ?side1 ?side2 A5.out).mono ?_); (case side1 => repeat (first | exact (Kd.R_reads' HO201.out).2.2 | (with_reducible refine Kd.C_alloc ?_ _) | (with_reducible refine Kd.C_drewN ?_ _) | (with_reducible refine Kd.C_drew ?_))); (case side2 => exact (Kd.R_reads' HO201.out).2.1); rintro e w10 ⟨rfl, hb⟩; have n0_ := Aside0.mk (Kd.R_below (by (with_reducible repeat (first | apply Kd.R_alloc | apply Kd.R_drewN | apply Kd.R_drew)); exact HO201.out) hb); have n1_ := Aside0.mk (below_step (by repeat (first | (with_reducible first | exact HB.out | apply below_alloc | apply pw_below_drewN | apply below_drew1) | exact HB.out)) hb); clear HO201; clear HB; have HO201 := n0_; have HB := n1_; clear n0_ n1_; (try clear hb); (try clear hb2); (try clear hk); (try clear hi)))
        go_ret
        exact ⟨by first | rfl | (simp [errW_none, errW_some] <;> rfl) | (simp [*, errW_none, errW_some] <;> rfl) | (simp [XBase.ne_nil_bytes, XBase.eq_nil_bytes]; done), by repeat (first | (with_reducible first | exact HB.out | apply below_alloc | apply pw_below_drewN | apply below_drew1) | exact HB.out)⟩
      · replace c6 := Bool.eq_false_iff.mpr c6
        subst c6
        have H1 : ((ignore_Is.f k t199 (⟨#[98, 47, 120]⟩ : ByteArray) false).bind fun t204 => (if t204 = true then ((ignore_Is.f k t199 (⟨#[121, 47, 98, 47, 120]⟩ : ByteArray) false).bind fun t205 => (if t205 = true then (some false) else ((ignore_Is.f k t199 (⟨#[99, 47, 100]⟩ : ByteArray) false).bind fun t206 => (if t206 = true then ((ignore_Is.f k t199 (⟨#[120, 47, 99, 47, 100]⟩ : ByteArray) false).bind fun t207 => (some (!t207))) else (some false))))) else (some false))) = some r := by rw [if_neg (show ¬ (false = true) by decide)] at H; exact H
        clear H
        have H := H1
        clear H1
        replace H := Option.bind_eq_some_iff.mp H
        obtain ⟨t204, A110, H⟩ := H
        replace H : (if t204 = true then ((ignore_Is.f k t199 (⟨#[121, 47, 98, 47, 120]⟩ : ByteArray) false).bind fun t205 => (if t205 = true then (some false) else ((ignore_Is.f k t199 (⟨#[99, 47, 100]⟩ : ByteArray) false).bind fun t206 => (if t206 = true then ((ignore_Is.f k t199 (⟨#[120, 47, 99, 47, 100]⟩ : ByteArray) false).bind fun t207 => (some (!t207))) else (some false))))) else (some false)) = some r := H
        have A11 := Aside0.mk A110
        clear A110
        by_cases c12 : t204 = true
        · subst c12
          have H1 : ((ignore_Is.f k t199 (⟨#[121, 47, 98, 47, 120]⟩ : ByteArray) false).bind fun t205 => (if t205 = true then (some false) else ((ignore_Is.f k t199 (⟨#[99, 47, 100]⟩ : ByteArray) false).bind fun t206 => (if t206 = true then ((ignore_Is.f k t199 (⟨#[120, 47, 99, 47, 100]⟩ : ByteArray) false).bind fun t207 => (some (!t207))) else (some false))))) = some r := by rw [if_pos rfl] at H; exact H
          clear H
          have H := H1
          clear H1
          replace H := Option.bind_eq_some_iff.mp H
          obtain ⟨t205, A130, H⟩ := H
          replace H : (if t205 = true then (some false) else ((ignore_Is.f k t199 (⟨#[99, 47, 100]⟩ : ByteArray) false).bind fun t206 => (if t206 = true then ((ignore_Is.f k t199 (⟨#[120, 47, 99, 47, 100]⟩ : ByteArray) false).bind fun t207 => (some (!t207))) else (some false)))) = some r := H
          have A13 := Aside0.mk A130
          clear A130
          by_cases c14 : t205 = true
          · subst c14
            have H1 : (some false) = some r := by rw [if_pos rfl] at H; exact H
            clear H
            have H := H1
            clear H1
            obtain rfl := Option.some.inj H
            go_enter Tryd.func6, Tryd.ntmps6
            go_wp2_with (first | ((with_reducible refine gate_callee (f := 7) rfl ?_); refine goesL_ (some 2) rfl rfl Tryd.func7 (by kernel_rfl) rfl #[.string (⟨#[42, 46, 111, 10, 33, 97, 46, 111, 10, 47, 98, 47, 10, 99, 47, 100, 10]⟩ : ByteArray), .string (⟨#[]⟩ : ByteArray)] rfl (by (try simp only [List.map_toArray, List.map_cons, List.map_nil]); first | done | rfl | (simp only [List.length_drop, List.length_take]; rfl)) ?_; (with_reducible refine (ignore_Parse.calls k (⟨#[42, 46, 111, 10, 33, 97, 46, 111, 10, 47, 98, 47, 10, 99, 47, 100, 10]⟩ : ByteArray) (⟨#[]⟩ : ByteArray) t199 _ A1.out).mono ?_); rintro e w15 ⟨v200, rfl, ho0, hb⟩; refine ⟨_, rfl, ?_⟩; have n0_ := Aside0.mk (Kd.R_lower ho0 (below_size (by repeat (first | (with_reducible first | exact HB.out | apply below_alloc | apply pw_below_drewN | apply below_drew1) | exact HB.out)))); have n1_ := Aside0.mk (below_step (by repeat (first | (with_reducible first | exact HB.out | apply below_alloc | apply pw_below_drewN | apply below_drew1) | exact HB.out)) hb); clear HB; have HO201 := n0_; have HB := n1_; clear n0_ n1_; (try clear hb); (try clear hb2); (try clear hk); (try clear hi); (try clear ho0); obtain ⟨Ao16, co16, eo16⟩ := Kd.R_slice HO201.out; subst eo16) | (go_at_call 9; (with_reducible refine (ignore_Is.calls k _ _ t199 (⟨#[120, 46, 111]⟩ : ByteArray) false true _ ?side1 ?side2 A3.out).mono ?_); (case side1 => repeat (first | exact (Kd.R_reads' HO201.out).2.2 | (with_reducible refine Kd.C_alloc ?_ _) | (with_reducible refine Kd.C_drewN ?_ _) | (with_reducible refine Kd.C_drew ?_))); (case side2 => exact (Kd.R_reads' HO201.out).2.1); rintro e w17 ⟨rfl, hb⟩; have n0_ := Aside0.mk (Kd.R_below (by (with_reducible repeat (first | apply Kd.R_alloc | apply Kd.R_drewN | apply Kd.R_drew)); exact HO201.out) hb); have n1_ := Aside0.mk (below_step (by repeat (first | (with_reducible first | exact HB.out | apply below_alloc | apply pw_below_drewN | apply below_drew1) | exact HB.out)) hb); clear HO201; clear HB; have HO201 := n0_; have HB := n1_; clear n0_ n1_; (try clear hb); (try clear hb2); (try clear hk); (try clear hi)) | (go_at_call 9; (with_reducible refine (ignore_Is.calls k _ _ t199 (⟨#[97, 46, 111]⟩ : ByteArray) false false _ ?side1 ?side2 A5.out).mono ?_); (case side1 => repeat (first | exact (Kd.R_reads' HO201.out).2.2 | (with_reducible refine Kd.C_alloc ?_ _) | (with_reducible refine Kd.C_drewN ?_ _) | (with_reducible refine Kd.C_drew ?_))); (case side2 => exact (Kd.R_reads' HO201.out).2.1); rintro e w18 ⟨rfl, hb⟩; have n0_ := Aside0.mk (Kd.R_below (by (with_reducible repeat (first | apply Kd.R_alloc | apply Kd.R_drewN | apply Kd.R_drew)); exact HO201.out) hb); have n1_ := Aside0.mk (below_step (by repeat (first | (with_reducible first | exact HB.out | apply below_alloc | apply pw_below_drewN | apply below_drew1) | exact HB.out)) hb); clear HO201; clear HB; have HO201 := n0_; have HB := n1_; clear n0_ n1_; (try clear hb); (try clear hb2); (try clear hk); (try clear hi)) | (go_at_call 9; (with_reducible refine (ignore_Is.calls k _ _ t199 (⟨#[98, 47, 120]⟩ : ByteArray) false true _ ?side1 ?side2 A11.out).mono ?_); (case side1 => repeat (first | exact (Kd.R_reads' HO201.out).2.2 | (with_reducible refine Kd.C_alloc ?_ _) | (with_reducible refine Kd.C_drewN ?_ _) | (with_reducible refine Kd.C_drew ?_))); (case side2 => exact (Kd.R_reads' HO201.out).2.1); rintro e w19 ⟨rfl, hb⟩; have n0_ := Aside0.mk (Kd.R_below (by (with_reducible repeat (first | apply Kd.R_alloc | apply Kd.R_drewN | apply Kd.R_drew)); exact HO201.out) hb); have n1_ := Aside0.mk (below_step (by repeat (first | (with_reducible first | exact HB.out | apply below_alloc | apply pw_below_drewN | apply below_drew1) | exact HB.out)) hb); clear HO201; clear HB; have HO201 := n0_; have HB := n1_; clear n0_ n1_; (try clear hb); (try clear hb2); (try clear hk); (try clear hi)) | (go_at_call 9; (with_reducible refine (ignore_Is.calls k _ _ t199 (⟨#[121, 47, 98, 47, 120]⟩ : ByteArray) false true _ ?side1 ?side2 A13.out).mono ?_); (case side1 => repeat (first | exact (Kd.R_reads' HO201.out).2.2 | (with_reducible refine Kd.C_alloc ?_ _) | (with_reducible refine Kd.C_drewN ?_ _) | (with_reducible refine Kd.C_drew ?_))); (case side2 => exact (Kd.R_reads' HO201.out).2.1); rintro e w20 ⟨rfl, hb⟩; have n0_ := Aside0.mk (Kd.R_below (by (with_reducible repeat (first | apply Kd.R_alloc | apply Kd.R_drewN | apply Kd.R_drew)); exact HO201.out) hb); have n1_ := Aside0.mk (below_step (by repeat (first | (with_reducible first | exact HB.out | apply below_alloc | apply pw_below_drewN | apply below_drew1) | exact HB.out)) hb); clear HO201; clear HB; have HO201 := n0_; have HB := n1_; clear n0_ n1_; (try clear hb); (try clear hb2); (try clear hk); (try clear hi)))
            go_ret
            exact ⟨by first | rfl | (simp [errW_none, errW_some] <;> rfl) | (simp [*, errW_none, errW_some] <;> rfl) | (simp [XBase.ne_nil_bytes, XBase.eq_nil_bytes]; done), by repeat (first | (with_reducible first | exact HB.out | apply below_alloc | apply pw_below_drewN | apply below_drew1) | exact HB.out)⟩
          · replace c14 := Bool.eq_false_iff.mpr c14
            subst c14
            have H1 : ((ignore_Is.f k t199 (⟨#[99, 47, 100]⟩ : ByteArray) false).bind fun t206 => (if t206 = true then ((ignore_Is.f k t199 (⟨#[120, 47, 99, 47, 100]⟩ : ByteArray) false).bind fun t207 => (some (!t207))) else (some false))) = some r := by rw [if_neg (show ¬ (false = true) by decide)] at H; exact H
            clear H
            have H := H1
            clear H1
            replace H := Option.bind_eq_some_iff.mp H
            obtain ⟨t206, A210, H⟩ := H
            replace H : (if t206 = true then ((ignore_Is.f k t199 (⟨#[120, 47, 99, 47, 100]⟩ : ByteArray) false).bind fun t207 => (some (!t207))) else (some false)) = some r := H
            have A21 := Aside0.mk A210
            clear A210
            by_cases c22 : t206 = true
            · subst c22
              have H1 : ((ignore_Is.f k t199 (⟨#[120, 47, 99, 47, 100]⟩ : ByteArray) false).bind fun t207 => (some (!t207))) = some r := by rw [if_pos rfl] at H; exact H
              clear H
              have H := H1
              clear H1
              replace H := Option.bind_eq_some_iff.mp H
              obtain ⟨t207, A230, H⟩ := H
              replace H : (some (!t207)) = some r := H
              have A23 := Aside0.mk A230
              clear A230
              obtain rfl := Option.some.inj H
              go_enter Tryd.func6, Tryd.ntmps6
              go_wp2_with (first | ((with_reducible refine gate_callee (f := 7) rfl ?_); refine goesL_ (some 2) rfl rfl Tryd.func7 (by kernel_rfl) rfl #[.string (⟨#[42, 46, 111, 10, 33, 97, 46, 111, 10, 47, 98, 47, 10, 99, 47, 100, 10]⟩ : ByteArray), .string (⟨#[]⟩ : ByteArray)] rfl (by (try simp only [List.map_toArray, List.map_cons, List.map_nil]); first | done | rfl | (simp only [List.length_drop, List.length_take]; rfl)) ?_; (with_reducible refine (ignore_Parse.calls k (⟨#[42, 46, 111, 10, 33, 97, 46, 111, 10, 47, 98, 47, 10, 99, 47, 100, 10]⟩ : ByteArray) (⟨#[]⟩ : ByteArray) t199 _ A1.out).mono ?_); rintro e w24 ⟨v200, rfl, ho0, hb⟩; refine ⟨_, rfl, ?_⟩; have n0_ := Aside0.mk (Kd.R_lower ho0 (below_size (by repeat (first | (with_reducible first | exact HB.out | apply below_alloc | apply pw_below_drewN | apply below_drew1) | exact HB.out)))); have n1_ := Aside0.mk (below_step (by repeat (first | (with_reducible first | exact HB.out | apply below_alloc | apply pw_below_drewN | apply below_drew1) | exact HB.out)) hb); clear HB; have HO201 := n0_; have HB := n1_; clear n0_ n1_; (try clear hb); (try clear hb2); (try clear hk); (try clear hi); (try clear ho0); obtain ⟨Ao25, co25, eo25⟩ := Kd.R_slice HO201.out; subst eo25) | (go_at_call 9; (with_reducible refine (ignore_Is.calls k _ _ t199 (⟨#[120, 46, 111]⟩ : ByteArray) false true _ ?side1 ?side2 A3.out).mono ?_); (case side1 => repeat (first | exact (Kd.R_reads' HO201.out).2.2 | (with_reducible refine Kd.C_alloc ?_ _) | (with_reducible refine Kd.C_drewN ?_ _) | (with_reducible refine Kd.C_drew ?_))); (case side2 => exact (Kd.R_reads' HO201.out).2.1); rintro e w26 ⟨rfl, hb⟩; have n0_ := Aside0.mk (Kd.R_below (by (with_reducible repeat (first | apply Kd.R_alloc | apply Kd.R_drewN | apply Kd.R_drew)); exact HO201.out) hb); have n1_ := Aside0.mk (below_step (by repeat (first | (with_reducible first | exact HB.out | apply below_alloc | apply pw_below_drewN | apply below_drew1) | exact HB.out)) hb); clear HO201; clear HB; have HO201 := n0_; have HB := n1_; clear n0_ n1_; (try clear hb); (try clear hb2); (try clear hk); (try clear hi)) | (go_at_call 9; (with_reducible refine (ignore_Is.calls k _ _ t199 (⟨#[97, 46, 111]⟩ : ByteArray) false false _ ?side1 ?side2 A5.out).mono ?_); (case side1 => repeat (first | exact (Kd.R_reads' HO201.out).2.2 | (with_reducible refine Kd.C_alloc ?_ _) | (with_reducible refine Kd.C_drewN ?_ _) | (with_reducible refine Kd.C_drew ?_))); (case side2 => exact (Kd.R_reads' HO201.out).2.1); rintro e w27 ⟨rfl, hb⟩; have n0_ := Aside0.mk (Kd.R_below (by (with_reducible repeat (first | apply Kd.R_alloc | apply Kd.R_drewN | apply Kd.R_drew)); exact HO201.out) hb); have n1_ := Aside0.mk (below_step (by repeat (first | (with_reducible first | exact HB.out | apply below_alloc | apply pw_below_drewN | apply below_drew1) | exact HB.out)) hb); clear HO201; clear HB; have HO201 := n0_; have HB := n1_; clear n0_ n1_; (try clear hb); (try clear hb2); (try clear hk); (try clear hi)) | (go_at_call 9; (with_reducible refine (ignore_Is.calls k _ _ t199 (⟨#[98, 47, 120]⟩ : ByteArray) false true _ ?side1 ?side2 A11.out).mono ?_); (case side1 => repeat (first | exact (Kd.R_reads' HO201.out).2.2 | (with_reducible refine Kd.C_alloc ?_ _) | (with_reducible refine Kd.C_drewN ?_ _) | (with_reducible refine Kd.C_drew ?_))); (case side2 => exact (Kd.R_reads' HO201.out).2.1); rintro e w28 ⟨rfl, hb⟩; have n0_ := Aside0.mk (Kd.R_below (by (with_reducible repeat (first | apply Kd.R_alloc | apply Kd.R_drewN | apply Kd.R_drew)); exact HO201.out) hb); have n1_ := Aside0.mk (below_step (by repeat (first | (with_reducible first | exact HB.out | apply below_alloc | apply pw_below_drewN | apply below_drew1) | exact HB.out)) hb); clear HO201; clear HB; have HO201 := n0_; have HB := n1_; clear n0_ n1_; (try clear hb); (try clear hb2); (try clear hk); (try clear hi)) | (go_at_call 9; (with_reducible refine (ignore_Is.calls k _ _ t199 (⟨#[121, 47, 98, 47, 120]⟩ : ByteArray) false false _ ?side1 ?side2 A13.out).mono ?_); (case side1 => repeat (first | exact (Kd.R_reads' HO201.out).2.2 | (with_reducible refine Kd.C_alloc ?_ _) | (with_reducible refine Kd.C_drewN ?_ _) | (with_reducible refine Kd.C_drew ?_))); (case side2 => exact (Kd.R_reads' HO201.out).2.1); rintro e w29 ⟨rfl, hb⟩; have n0_ := Aside0.mk (Kd.R_below (by (with_reducible repeat (first | apply Kd.R_alloc | apply Kd.R_drewN | apply Kd.R_drew)); exact HO201.out) hb); have n1_ := Aside0.mk (below_step (by repeat (first | (with_reducible first | exact HB.out | apply below_alloc | apply pw_below_drewN | apply below_drew1) | exact HB.out)) hb); clear HO201; clear HB; have HO201 := n0_; have HB := n1_; clear n0_ n1_; (try clear hb); (try clear hb2); (try clear hk); (try clear hi)) | (go_at_call 9; (with_reducible refine (ignore_Is.calls k _ _ t199 (⟨#[99, 47, 100]⟩ : ByteArray) false true _ ?side1 ?side2 A21.out).mono ?_); (case side1 => repeat (first | exact (Kd.R_reads' HO201.out).2.2 | (with_reducible refine Kd.C_alloc ?_ _) | (with_reducible refine Kd.C_drewN ?_ _) | (with_reducible refine Kd.C_drew ?_))); (case side2 => exact (Kd.R_reads' HO201.out).2.1); rintro e w30 ⟨rfl, hb⟩; have n0_ := Aside0.mk (Kd.R_below (by (with_reducible repeat (first | apply Kd.R_alloc | apply Kd.R_drewN | apply Kd.R_drew)); exact HO201.out) hb); have n1_ := Aside0.mk (below_step (by repeat (first | (with_reducible first | exact HB.out | apply below_alloc | apply pw_below_drewN | apply below_drew1) | exact HB.out)) hb); clear HO201; clear HB; have HO201 := n0_; have HB := n1_; clear n0_ n1_; (try clear hb); (try clear hb2); (try clear hk); (try clear hi)) | (go_at_call 9; (with_reducible refine (ignore_Is.calls k _ _ t199 (⟨#[120, 47, 99, 47, 100]⟩ : ByteArray) false t207 _ ?side1 ?side2 A23.out).mono ?_); (case side1 => repeat (first | exact (Kd.R_reads' HO201.out).2.2 | (with_reducible refine Kd.C_alloc ?_ _) | (with_reducible refine Kd.C_drewN ?_ _) | (with_reducible refine Kd.C_drew ?_))); (case side2 => exact (Kd.R_reads' HO201.out).2.1); rintro e w31 ⟨rfl, hb⟩; have n0_ := Aside0.mk (Kd.R_below (by (with_reducible repeat (first | apply Kd.R_alloc | apply Kd.R_drewN | apply Kd.R_drew)); exact HO201.out) hb); have n1_ := Aside0.mk (below_step (by repeat (first | (with_reducible first | exact HB.out | apply below_alloc | apply pw_below_drewN | apply below_drew1) | exact HB.out)) hb); clear HO201; clear HB; have HO201 := n0_; have HB := n1_; clear n0_ n1_; (try clear hb); (try clear hb2); (try clear hk); (try clear hi)))
              go_ret
              exact ⟨by first | rfl | (simp [errW_none, errW_some] <;> rfl) | (simp [*, errW_none, errW_some] <;> rfl) | (simp [XBase.ne_nil_bytes, XBase.eq_nil_bytes]; done), by repeat (first | (with_reducible first | exact HB.out | apply below_alloc | apply pw_below_drewN | apply below_drew1) | exact HB.out)⟩
            · replace c22 := Bool.eq_false_iff.mpr c22
              subst c22
              have H1 : (some false) = some r := by rw [if_neg (show ¬ (false = true) by decide)] at H; exact H
              clear H
              have H := H1
              clear H1
              obtain rfl := Option.some.inj H
              go_enter Tryd.func6, Tryd.ntmps6
              go_wp2_with (first | ((with_reducible refine gate_callee (f := 7) rfl ?_); refine goesL_ (some 2) rfl rfl Tryd.func7 (by kernel_rfl) rfl #[.string (⟨#[42, 46, 111, 10, 33, 97, 46, 111, 10, 47, 98, 47, 10, 99, 47, 100, 10]⟩ : ByteArray), .string (⟨#[]⟩ : ByteArray)] rfl (by (try simp only [List.map_toArray, List.map_cons, List.map_nil]); first | done | rfl | (simp only [List.length_drop, List.length_take]; rfl)) ?_; (with_reducible refine (ignore_Parse.calls k (⟨#[42, 46, 111, 10, 33, 97, 46, 111, 10, 47, 98, 47, 10, 99, 47, 100, 10]⟩ : ByteArray) (⟨#[]⟩ : ByteArray) t199 _ A1.out).mono ?_); rintro e w32 ⟨v200, rfl, ho0, hb⟩; refine ⟨_, rfl, ?_⟩; have n0_ := Aside0.mk (Kd.R_lower ho0 (below_size (by repeat (first | (with_reducible first | exact HB.out | apply below_alloc | apply pw_below_drewN | apply below_drew1) | exact HB.out)))); have n1_ := Aside0.mk (below_step (by repeat (first | (with_reducible first | exact HB.out | apply below_alloc | apply pw_below_drewN | apply below_drew1) | exact HB.out)) hb); clear HB; have HO201 := n0_; have HB := n1_; clear n0_ n1_; (try clear hb); (try clear hb2); (try clear hk); (try clear hi); (try clear ho0); obtain ⟨Ao33, co33, eo33⟩ := Kd.R_slice HO201.out; subst eo33) | (go_at_call 9; (with_reducible refine (ignore_Is.calls k _ _ t199 (⟨#[120, 46, 111]⟩ : ByteArray) false true _ ?side1 ?side2 A3.out).mono ?_); (case side1 => repeat (first | exact (Kd.R_reads' HO201.out).2.2 | (with_reducible refine Kd.C_alloc ?_ _) | (with_reducible refine Kd.C_drewN ?_ _) | (with_reducible refine Kd.C_drew ?_))); (case side2 => exact (Kd.R_reads' HO201.out).2.1); rintro e w34 ⟨rfl, hb⟩; have n0_ := Aside0.mk (Kd.R_below (by (with_reducible repeat (first | apply Kd.R_alloc | apply Kd.R_drewN | apply Kd.R_drew)); exact HO201.out) hb); have n1_ := Aside0.mk (below_step (by repeat (first | (with_reducible first | exact HB.out | apply below_alloc | apply pw_below_drewN | apply below_drew1) | exact HB.out)) hb); clear HO201; clear HB; have HO201 := n0_; have HB := n1_; clear n0_ n1_; (try clear hb); (try clear hb2); (try clear hk); (try clear hi)) | (go_at_call 9; (with_reducible refine (ignore_Is.calls k _ _ t199 (⟨#[97, 46, 111]⟩ : ByteArray) false false _ ?side1 ?side2 A5.out).mono ?_); (case side1 => repeat (first | exact (Kd.R_reads' HO201.out).2.2 | (with_reducible refine Kd.C_alloc ?_ _) | (with_reducible refine Kd.C_drewN ?_ _) | (with_reducible refine Kd.C_drew ?_))); (case side2 => exact (Kd.R_reads' HO201.out).2.1); rintro e w35 ⟨rfl, hb⟩; have n0_ := Aside0.mk (Kd.R_below (by (with_reducible repeat (first | apply Kd.R_alloc | apply Kd.R_drewN | apply Kd.R_drew)); exact HO201.out) hb); have n1_ := Aside0.mk (below_step (by repeat (first | (with_reducible first | exact HB.out | apply below_alloc | apply pw_below_drewN | apply below_drew1) | exact HB.out)) hb); clear HO201; clear HB; have HO201 := n0_; have HB := n1_; clear n0_ n1_; (try clear hb); (try clear hb2); (try clear hk); (try clear hi)) | (go_at_call 9; (with_reducible refine (ignore_Is.calls k _ _ t199 (⟨#[98, 47, 120]⟩ : ByteArray) false true _ ?side1 ?side2 A11.out).mono ?_); (case side1 => repeat (first | exact (Kd.R_reads' HO201.out).2.2 | (with_reducible refine Kd.C_alloc ?_ _) | (with_reducible refine Kd.C_drewN ?_ _) | (with_reducible refine Kd.C_drew ?_))); (case side2 => exact (Kd.R_reads' HO201.out).2.1); rintro e w36 ⟨rfl, hb⟩; have n0_ := Aside0.mk (Kd.R_below (by (with_reducible repeat (first | apply Kd.R_alloc | apply Kd.R_drewN | apply Kd.R_drew)); exact HO201.out) hb); have n1_ := Aside0.mk (below_step (by repeat (first | (with_reducible first | exact HB.out | apply below_alloc | apply pw_below_drewN | apply below_drew1) | exact HB.out)) hb); clear HO201; clear HB; have HO201 := n0_; have HB := n1_; clear n0_ n1_; (try clear hb); (try clear hb2); (try clear hk); (try clear hi)) | (go_at_call 9; (with_reducible refine (ignore_Is.calls k _ _ t199 (⟨#[121, 47, 98, 47, 120]⟩ : ByteArray) false false _ ?side1 ?side2 A13.out).mono ?_); (case side1 => repeat (first | exact (Kd.R_reads' HO201.out).2.2 | (with_reducible refine Kd.C_alloc ?_ _) | (with_reducible refine Kd.C_drewN ?_ _) | (with_reducible refine Kd.C_drew ?_))); (case side2 => exact (Kd.R_reads' HO201.out).2.1); rintro e w37 ⟨rfl, hb⟩; have n0_ := Aside0.mk (Kd.R_below (by (with_reducible repeat (first | apply Kd.R_alloc | apply Kd.R_drewN | apply Kd.R_drew)); exact HO201.out) hb); have n1_ := Aside0.mk (below_step (by repeat (first | (with_reducible first | exact HB.out | apply below_alloc | apply pw_below_drewN | apply below_drew1) | exact HB.out)) hb); clear HO201; clear HB; have HO201 := n0_; have HB := n1_; clear n0_ n1_; (try clear hb); (try clear hb2); (try clear hk); (try clear hi)) | (go_at_call 9; (with_reducible refine (ignore_Is.calls k _ _ t199 (⟨#[99, 47, 100]⟩ : ByteArray) false false _ ?side1 ?side2 A21.out).mono ?_); (case side1 => repeat (first | exact (Kd.R_reads' HO201.out).2.2 | (with_reducible refine Kd.C_alloc ?_ _) | (with_reducible refine Kd.C_drewN ?_ _) | (with_reducible refine Kd.C_drew ?_))); (case side2 => exact (Kd.R_reads' HO201.out).2.1); rintro e w38 ⟨rfl, hb⟩; have n0_ := Aside0.mk (Kd.R_below (by (with_reducible repeat (first | apply Kd.R_alloc | apply Kd.R_drewN | apply Kd.R_drew)); exact HO201.out) hb); have n1_ := Aside0.mk (below_step (by repeat (first | (with_reducible first | exact HB.out | apply below_alloc | apply pw_below_drewN | apply below_drew1) | exact HB.out)) hb); clear HO201; clear HB; have HO201 := n0_; have HB := n1_; clear n0_ n1_; (try clear hb); (try clear hb2); (try clear hk); (try clear hi)))
              go_ret
              exact ⟨by first | rfl | (simp [errW_none, errW_some] <;> rfl) | (simp [*, errW_none, errW_some] <;> rfl) | (simp [XBase.ne_nil_bytes, XBase.eq_nil_bytes]; done), by repeat (first | (with_reducible first | exact HB.out | apply below_alloc | apply pw_below_drewN | apply below_drew1) | exact HB.out)⟩
        · replace c12 := Bool.eq_false_iff.mpr c12
          subst c12
          have H1 : (some false) = some r := by rw [if_neg (show ¬ (false = true) by decide)] at H; exact H
          clear H
          have H := H1
          clear H1
          obtain rfl := Option.some.inj H
          go_enter Tryd.func6, Tryd.ntmps6
          go_wp2_with (first | ((with_reducible refine gate_callee (f := 7) rfl ?_); refine goesL_ (some 2) rfl rfl Tryd.func7 (by kernel_rfl) rfl #[.string (⟨#[42, 46, 111, 10, 33, 97, 46, 111, 10, 47, 98, 47, 10, 99, 47, 100, 10]⟩ : ByteArray), .string (⟨#[]⟩ : ByteArray)] rfl (by (try simp only [List.map_toArray, List.map_cons, List.map_nil]); first | done | rfl | (simp only [List.length_drop, List.length_take]; rfl)) ?_; (with_reducible refine (ignore_Parse.calls k (⟨#[42, 46, 111, 10, 33, 97, 46, 111, 10, 47, 98, 47, 10, 99, 47, 100, 10]⟩ : ByteArray) (⟨#[]⟩ : ByteArray) t199 _ A1.out).mono ?_); rintro e w39 ⟨v200, rfl, ho0, hb⟩; refine ⟨_, rfl, ?_⟩; have n0_ := Aside0.mk (Kd.R_lower ho0 (below_size (by repeat (first | (with_reducible first | exact HB.out | apply below_alloc | apply pw_below_drewN | apply below_drew1) | exact HB.out)))); have n1_ := Aside0.mk (below_step (by repeat (first | (with_reducible first | exact HB.out | apply below_alloc | apply pw_below_drewN | apply below_drew1) | exact HB.out)) hb); clear HB; have HO201 := n0_; have HB := n1_; clear n0_ n1_; (try clear hb); (try clear hb2); (try clear hk); (try clear hi); (try clear ho0); obtain ⟨Ao40, co40, eo40⟩ := Kd.R_slice HO201.out; subst eo40) | (go_at_call 9; (with_reducible refine (ignore_Is.calls k _ _ t199 (⟨#[120, 46, 111]⟩ : ByteArray) false true _ ?side1 ?side2 A3.out).mono ?_); (case side1 => repeat (first | exact (Kd.R_reads' HO201.out).2.2 | (with_reducible refine Kd.C_alloc ?_ _) | (with_reducible refine Kd.C_drewN ?_ _) | (with_reducible refine Kd.C_drew ?_))); (case side2 => exact (Kd.R_reads' HO201.out).2.1); rintro e w41 ⟨rfl, hb⟩; have n0_ := Aside0.mk (Kd.R_below (by (with_reducible repeat (first | apply Kd.R_alloc | apply Kd.R_drewN | apply Kd.R_drew)); exact HO201.out) hb); have n1_ := Aside0.mk (below_step (by repeat (first | (with_reducible first | exact HB.out | apply below_alloc | apply pw_below_drewN | apply below_drew1) | exact HB.out)) hb); clear HO201; clear HB; have HO201 := n0_; have HB := n1_; clear n0_ n1_; (try clear hb); (try clear hb2); (try clear hk); (try clear hi)) | (go_at_call 9; (with_reducible refine (ignore_Is.calls k _ _ t199 (⟨#[97, 46, 111]⟩ : ByteArray) false false _ ?side1 ?side2 A5.out).mono ?_); (case side1 => repeat (first | exact (Kd.R_reads' HO201.out).2.2 | (with_reducible refine Kd.C_alloc ?_ _) | (with_reducible refine Kd.C_drewN ?_ _) | (with_reducible refine Kd.C_drew ?_))); (case side2 => exact (Kd.R_reads' HO201.out).2.1); rintro e w42 ⟨rfl, hb⟩; have n0_ := Aside0.mk (Kd.R_below (by (with_reducible repeat (first | apply Kd.R_alloc | apply Kd.R_drewN | apply Kd.R_drew)); exact HO201.out) hb); have n1_ := Aside0.mk (below_step (by repeat (first | (with_reducible first | exact HB.out | apply below_alloc | apply pw_below_drewN | apply below_drew1) | exact HB.out)) hb); clear HO201; clear HB; have HO201 := n0_; have HB := n1_; clear n0_ n1_; (try clear hb); (try clear hb2); (try clear hk); (try clear hi)) | (go_at_call 9; (with_reducible refine (ignore_Is.calls k _ _ t199 (⟨#[98, 47, 120]⟩ : ByteArray) false false _ ?side1 ?side2 A11.out).mono ?_); (case side1 => repeat (first | exact (Kd.R_reads' HO201.out).2.2 | (with_reducible refine Kd.C_alloc ?_ _) | (with_reducible refine Kd.C_drewN ?_ _) | (with_reducible refine Kd.C_drew ?_))); (case side2 => exact (Kd.R_reads' HO201.out).2.1); rintro e w43 ⟨rfl, hb⟩; have n0_ := Aside0.mk (Kd.R_below (by (with_reducible repeat (first | apply Kd.R_alloc | apply Kd.R_drewN | apply Kd.R_drew)); exact HO201.out) hb); have n1_ := Aside0.mk (below_step (by repeat (first | (with_reducible first | exact HB.out | apply below_alloc | apply pw_below_drewN | apply below_drew1) | exact HB.out)) hb); clear HO201; clear HB; have HO201 := n0_; have HB := n1_; clear n0_ n1_; (try clear hb); (try clear hb2); (try clear hk); (try clear hi)))
          go_ret
          exact ⟨by first | rfl | (simp [errW_none, errW_some] <;> rfl) | (simp [*, errW_none, errW_some] <;> rfl) | (simp [XBase.ne_nil_bytes, XBase.eq_nil_bytes]; done), by repeat (first | (with_reducible first | exact HB.out | apply below_alloc | apply pw_below_drewN | apply below_drew1) | exact HB.out)⟩
    · replace c4 := Bool.eq_false_iff.mpr c4
      subst c4
      have H1 : (some false) = some r := by rw [if_neg (show ¬ (false = true) by decide)] at H; exact H
      clear H
      have H := H1
      clear H1
      obtain rfl := Option.some.inj H
      go_enter Tryd.func6, Tryd.ntmps6
      go_wp2_with (first | ((with_reducible refine gate_callee (f := 7) rfl ?_); refine goesL_ (some 2) rfl rfl Tryd.func7 (by kernel_rfl) rfl #[.string (⟨#[42, 46, 111, 10, 33, 97, 46, 111, 10, 47, 98, 47, 10, 99, 47, 100, 10]⟩ : ByteArray), .string (⟨#[]⟩ : ByteArray)] rfl (by (try simp only [List.map_toArray, List.map_cons, List.map_nil]); first | done | rfl | (simp only [List.length_drop, List.length_take]; rfl)) ?_; (with_reducible refine (ignore_Parse.calls k (⟨#[42, 46, 111, 10, 33, 97, 46, 111, 10, 47, 98, 47, 10, 99, 47, 100, 10]⟩ : ByteArray) (⟨#[]⟩ : ByteArray) t199 _ A1.out).mono ?_); rintro e w44 ⟨v200, rfl, ho0, hb⟩; refine ⟨_, rfl, ?_⟩; have n0_ := Aside0.mk (Kd.R_lower ho0 (below_size (by repeat (first | (with_reducible first | exact HB.out | apply below_alloc | apply pw_below_drewN | apply below_drew1) | exact HB.out)))); have n1_ := Aside0.mk (below_step (by repeat (first | (with_reducible first | exact HB.out | apply below_alloc | apply pw_below_drewN | apply below_drew1) | exact HB.out)) hb); clear HB; have HO201 := n0_; have HB := n1_; clear n0_ n1_; (try clear hb); (try clear hb2); (try clear hk); (try clear hi); (try clear ho0); obtain ⟨Ao45, co45, eo45⟩ := Kd.R_slice HO201.out; subst eo45) | (go_at_call 9; (with_reducible refine (ignore_Is.calls k _ _ t199 (⟨#[120, 46, 111]⟩ : ByteArray) false false _ ?side1 ?side2 A3.out).mono ?_); (case side1 => repeat (first | exact (Kd.R_reads' HO201.out).2.2 | (with_reducible refine Kd.C_alloc ?_ _) | (with_reducible refine Kd.C_drewN ?_ _) | (with_reducible refine Kd.C_drew ?_))); (case side2 => exact (Kd.R_reads' HO201.out).2.1); rintro e w46 ⟨rfl, hb⟩; have n0_ := Aside0.mk (Kd.R_below (by (with_reducible repeat (first | apply Kd.R_alloc | apply Kd.R_drewN | apply Kd.R_drew)); exact HO201.out) hb); have n1_ := Aside0.mk (below_step (by repeat (first | (with_reducible first | exact HB.out | apply below_alloc | apply pw_below_drewN | apply below_drew1) | exact HB.out)) hb); clear HO201; clear HB; have HO201 := n0_; have HB := n1_; clear n0_ n1_; (try clear hb); (try clear hb2); (try clear hk); (try clear hi)))
      go_ret
      exact ⟨by first | rfl | (simp [errW_none, errW_some] <;> rfl) | (simp [*, errW_none, errW_some] <;> rfl) | (simp [XBase.ne_nil_bytes, XBase.eq_nil_bytes]; done), by repeat (first | (with_reducible first | exact HB.out | apply below_alloc | apply pw_below_drewN | apply below_drew1) | exact HB.out)⟩
  · rw [if_neg c2] at H
    have c2b0 : ((t199.length : Int) == 4) = false := beq_eq_false_iff_ne.mpr c2
    have c2b1 : ((t199.length : Int) != 4) = true := bne_iff_ne.mpr c2
    obtain rfl := Option.some.inj H
    go_enter Tryd.func6, Tryd.ntmps6
    go_wp2_with (first | ((with_reducible refine gate_callee (f := 7) rfl ?_); refine goesL_ (some 2) rfl rfl Tryd.func7 (by kernel_rfl) rfl #[.string (⟨#[42, 46, 111, 10, 33, 97, 46, 111, 10, 47, 98, 47, 10, 99, 47, 100, 10]⟩ : ByteArray), .string (⟨#[]⟩ : ByteArray)] rfl (by (try simp only [List.map_toArray, List.map_cons, List.map_nil]); first | done | rfl | (simp only [List.length_drop, List.length_take]; rfl)) ?_; (with_reducible refine (ignore_Parse.calls k (⟨#[42, 46, 111, 10, 33, 97, 46, 111, 10, 47, 98, 47, 10, 99, 47, 100, 10]⟩ : ByteArray) (⟨#[]⟩ : ByteArray) t199 _ A1.out).mono ?_); rintro e w47 ⟨v200, rfl, ho0, hb⟩; refine ⟨_, rfl, ?_⟩; have n0_ := Aside0.mk (Kd.R_lower ho0 (below_size (by repeat (first | (with_reducible first | exact HB.out | apply below_alloc | apply pw_below_drewN | apply below_drew1) | exact HB.out)))); have n1_ := Aside0.mk (below_step (by repeat (first | (with_reducible first | exact HB.out | apply below_alloc | apply pw_below_drewN | apply below_drew1) | exact HB.out)) hb); clear HB; have HO201 := n0_; have HB := n1_; clear n0_ n1_; (try clear hb); (try clear hb2); (try clear hk); (try clear hi); (try clear ho0); obtain ⟨Ao48, co48, eo48⟩ := Kd.R_slice HO201.out; subst eo48))
    go_ret
    exact ⟨by first | rfl | (simp [errW_none, errW_some] <;> rfl) | (simp [*, errW_none, errW_some] <;> rfl) | (simp [XBase.ne_nil_bytes, XBase.eq_nil_bytes]; done), by repeat (first | (with_reducible first | exact HB.out | apply below_alloc | apply pw_below_drewN | apply below_drew1) | exact HB.out)⟩

/-! ### graftagelaw30_IgnoreElsewhere: function 3 -/
def graftagelaw30_IgnoreElsewhere.j0 : Nat → ByteArray → ByteArray → ByteArray → Bool → Option (Bool)
  | 0, _, _, _, _ => none
  | k + 1, x0, x1, x2, x20 => if x20 = true then ((graftagelaw30_lives.f k).bind fun t209 => (some t209)) else ((ignore_Parse.f k x0 x1).bind fun t210 => ((ignore_Last.f k t210 x2 true).bind fun t213 => (if t213 = (-1) then ((ignore_Is.f k t210 x2 false).bind fun t214 => (if t214 = true then (some false) else ((graftagelaw30_lives.f k).bind fun t215 => (some t215)))) else (some false))))
def graftagelaw30_IgnoreElsewhere.f (k : Nat) (a0 : ByteArray) (a1 : ByteArray) (a2 : ByteArray) : Option (Bool) := if (a0.size : Int) > 300 then (graftagelaw30_IgnoreElsewhere.j0 k a0 a1 a2 true) else (if (a2.size : Int) > 200 then (graftagelaw30_IgnoreElsewhere.j0 k a0 a1 a2 true) else ((graftageref06_Within.f a1 a2).bind fun t208 => (graftagelaw30_IgnoreElsewhere.j0 k a0 a1 a2 t208)))
theorem graftagelaw30_IgnoreElsewhere.mono_l : ∀ k, (∀ y0 y1 y2 y3, LeO (graftagelaw30_IgnoreElsewhere.j0 k y0 y1 y2 y3) (graftagelaw30_IgnoreElsewhere.j0 (k + 1) y0 y1 y2 y3))
  | 0 => fun _ _ _ _ r h => by simp [graftagelaw30_IgnoreElsewhere.j0] at h
  | k + 1 => by
    have ih0 := graftagelaw30_IgnoreElsewhere.mono_l k
    · intro y0 y1 y2 y3
      unfold graftagelaw30_IgnoreElsewhere.j0
      repeat' first
      | (with_reducible exact ih0 _ _ _ _)
      | (with_reducible exact graftagelaw30_lives.mono _)
      | (with_reducible exact ignore_Is.mono _ _ _ _)
      | (with_reducible exact ignore_Last.mono _ _ _ _)
      | (with_reducible exact ignore_Parse.mono _ _ _)
      | (with_reducible exact LeO.refl _)
      | (with_reducible exact LeO.none _)
      | (with_reducible refine LeO.ite ?_ ?_)
      | (with_reducible refine LeO.bind ?_ (fun _ => ?_))
      | exact ih0 _ _ _ _
      | exact graftagelaw30_lives.mono _
      | exact ignore_Is.mono _ _ _ _
      | exact ignore_Last.mono _ _ _ _
      | exact ignore_Parse.mono _ _ _
      | exact LeO.none _
      | refine LeO.ite ?_ ?_
      | refine LeO.bind ?_ (fun _ => ?_)
theorem graftagelaw30_IgnoreElsewhere.mono : ∀ a0 a1 a2 k, LeO (graftagelaw30_IgnoreElsewhere.f k a0 a1 a2) (graftagelaw30_IgnoreElsewhere.f (k + 1) a0 a1 a2) := by
  intro a0 a1 a2 k
  have ih0 := graftagelaw30_IgnoreElsewhere.mono_l k
  unfold graftagelaw30_IgnoreElsewhere.f
  repeat' first
      | (with_reducible exact ih0 _ _ _ _)
      | (with_reducible exact graftagelaw30_lives.mono _)
      | (with_reducible exact ignore_Is.mono _ _ _ _)
      | (with_reducible exact ignore_Last.mono _ _ _ _)
      | (with_reducible exact ignore_Parse.mono _ _ _)
      | (with_reducible exact LeO.refl _)
      | (with_reducible exact LeO.none _)
      | (with_reducible refine LeO.ite ?_ ?_)
      | (with_reducible refine LeO.bind ?_ (fun _ => ?_))
      | exact ih0 _ _ _ _
      | exact graftagelaw30_lives.mono _
      | exact ignore_Is.mono _ _ _ _
      | exact ignore_Last.mono _ _ _ _
      | exact ignore_Parse.mono _ _ _
      | exact LeO.none _
      | refine LeO.ite ?_ ?_
      | refine LeO.bind ?_ (fun _ => ?_)
set_option maxHeartbeats 8000000 in
set_option maxRecDepth 100000 in
theorem graftagelaw30_IgnoreElsewhere.calls (k : Nat) (a0 : ByteArray) (a1 : ByteArray) (a2 : ByteArray) (r : Bool) (w : World) (h : graftagelaw30_IgnoreElsewhere.f k a0 a1 a2 = some r) :
    Calls Tryd.prog 3 #[.string a0, .string a1, .string a2] w fun e w' => e = .returned (.bool r) ∧ Below w.heap.size w w' := by
  have HB := Aside0.mk (Below.refl w.heap.size w)
  have H : (if (a0.size : Int) > 300 then (graftagelaw30_IgnoreElsewhere.j0 k a0 a1 a2 true) else (if (a2.size : Int) > 200 then (graftagelaw30_IgnoreElsewhere.j0 k a0 a1 a2 true) else ((graftageref06_Within.f a1 a2).bind fun t208 => (graftagelaw30_IgnoreElsewhere.j0 k a0 a1 a2 t208)))) = some r := h
  clear h
  have HC4 := Aside0.mk H
  clear H
  go_enter Tryd.func3, Tryd.ntmps3
  go_upto_region 1 with (fail)
  go_cut [20] (fun v20 wc => ∃ (kq : Nat) (x20_3 : Bool), v20 = .bool x20_3 ∧ Aside0 (graftagelaw30_IgnoreElsewhere.j0 kq a0 a1 a2 x20_3 = some r) ∧ Aside0 (kq ≤ k) ∧ Aside0 (Below w.heap.size w wc))
  case first =>
    have H := HC4.out
    clear HC4
    by_cases c5 : (a0.size : Int) > 300
    · rw [if_pos c5] at H
      have c5b0 : decide (300 < (a0.size : Int)) = true := decide_eq_true c5
      have c5b1 : decide (300 < a0.size) = true := decide_eq_true (by omega)
      clear c5
      (first | rw [c5b0] | (simp only [i64_w, i32_w]; rw [c5b0]) | skip)
      have H' := Aside0.mk H
      clear H
      go_wp2
      go_meet
      case rel => exact ⟨_, (true), (by first | rfl | (simp; done) | (simp [*]; done)), H', ⟨by first | omega | exact Nat.le_refl _⟩, ⟨by repeat (first | (with_reducible first | exact HB.out | apply below_alloc | apply pw_below_drewN | apply below_drew1) | exact HB.out)⟩⟩
    · rw [if_neg c5] at H
      have c5b0 : decide (300 < (a0.size : Int)) = false := decide_eq_false c5
      have c5b1 : decide (300 < a0.size) = false := decide_eq_false (by omega)
      clear c5
      (first | rw [c5b0] | (simp only [i64_w, i32_w]; rw [c5b0]) | skip)
      by_cases c6 : (a2.size : Int) > 200
      · rw [if_pos c6] at H
        have c6b0 : decide (200 < (a2.size : Int)) = true := decide_eq_true c6
        have c6b1 : decide (200 < a2.size) = true := decide_eq_true (by omega)
        clear c6
        have H' := Aside0.mk H
        clear H
        go_wp2
        go_meet
        case rel => exact ⟨_, (true), (by first | rfl | (simp; done) | (simp [*]; done)), H', ⟨by first | omega | exact Nat.le_refl _⟩, ⟨by repeat (first | (with_reducible first | exact HB.out | apply below_alloc | apply pw_below_drewN | apply below_drew1) | exact HB.out)⟩⟩
      · rw [if_neg c6] at H
        have c6b0 : decide (200 < (a2.size : Int)) = false := decide_eq_false c6
        have c6b1 : decide (200 < a2.size) = false := decide_eq_false (by omega)
        clear c6
        replace H := Option.bind_eq_some_iff.mp H
        obtain ⟨t208, A70, H⟩ := H
        replace H : (graftagelaw30_IgnoreElsewhere.j0 k a0 a1 a2 t208) = some r := H
        have A7 := Aside0.mk A70
        clear A70
        have H' := Aside0.mk H
        clear H
        go_wp2_with (first | (go_at_call 5; (with_reducible refine (graftageref06_Within.calls a1 a2 t208 _ A7.out).mono ?_); rintro e w' ⟨rfl, ⟨nd, rfl⟩⟩))
        go_meet
        case rel => exact ⟨_, (t208), (by first | rfl | (simp; done) | (simp [*]; done)), H', ⟨by first | omega | exact Nat.le_refl _⟩, ⟨by repeat (first | (with_reducible first | exact HB.out | apply below_alloc | apply pw_below_drewN | apply below_drew1) | exact HB.out)⟩⟩
  case rest =>
    clear HC4
    try clear p2
    try clear c3
    try clear c5
    try clear c5b0
    try clear c5b1
    try clear c6
    try clear c6b0
    try clear c6b1
    obtain ⟨kq, x20_3, rfl, HA, HJ3, HB⟩ := hcut
    cases kq with
    | zero => exact absurd HA.out (by simp [graftagelaw30_IgnoreElsewhere.j0])
    | succ kj3 =>
      have H := HA.out
      clear HA
      simp only [graftagelaw30_IgnoreElsewhere.j0] at H
      by_cases c8 : x20_3 = true
      · subst c8
        have H1 : ((graftagelaw30_lives.f kj3).bind fun t209 => (some t209)) = some r := by rw [if_pos rfl] at H; exact H
        clear H
        have H := H1
        clear H1
        replace H := Option.bind_eq_some_iff.mp H
        obtain ⟨t209, A90, H⟩ := H
        replace H : (some t209) = some r := H
        have A9 := Aside0.mk A90
        clear A90
        obtain rfl := Option.some.inj H
        go_wp2_with (first | ((with_reducible refine gate_callee (f := 6) rfl ?_); refine goesL_ (some 21) rfl rfl Tryd.func6 (by kernel_rfl) rfl #[] rfl (by (try simp only [List.map_toArray, List.map_cons, List.map_nil]); first | done | rfl | (simp only [List.length_drop, List.length_take]; rfl)) ?_; (with_reducible refine (graftagelaw30_lives.calls kj3  t209 _ A9.out).mono ?_); rintro e w10 ⟨rfl, hb⟩; refine ⟨_, rfl, ?_⟩; have n0_ := Aside0.mk (below_step (by repeat (first | (with_reducible first | exact HB.out | apply below_alloc | apply pw_below_drewN | apply below_drew1) | exact HB.out)) hb); clear HB; have HB := n0_; clear n0_; (try clear hb); (try clear hb2); (try clear hk); (try clear hi)))
        go_ret
        exact ⟨by first | rfl | (simp [errW_none, errW_some] <;> rfl) | (simp [*, errW_none, errW_some] <;> rfl) | (simp [XBase.ne_nil_bytes, XBase.eq_nil_bytes]; done), by repeat (first | (with_reducible first | exact HB.out | apply below_alloc | apply pw_below_drewN | apply below_drew1) | exact HB.out)⟩
      · replace c8 := Bool.eq_false_iff.mpr c8
        subst c8
        have H1 : ((ignore_Parse.f kj3 a0 a1).bind fun t210 => ((ignore_Last.f kj3 t210 a2 true).bind fun t213 => (if t213 = (-1) then ((ignore_Is.f kj3 t210 a2 false).bind fun t214 => (if t214 = true then (some false) else ((graftagelaw30_lives.f kj3).bind fun t215 => (some t215)))) else (some false)))) = some r := by rw [if_neg (show ¬ (false = true) by decide)] at H; exact H
        clear H
        have H := H1
        clear H1
        replace H := Option.bind_eq_some_iff.mp H
        obtain ⟨t210, A110, H⟩ := H
        replace H : ((ignore_Last.f kj3 t210 a2 true).bind fun t213 => (if t213 = (-1) then ((ignore_Is.f kj3 t210 a2 false).bind fun t214 => (if t214 = true then (some false) else ((graftagelaw30_lives.f kj3).bind fun t215 => (some t215)))) else (some false))) = some r := H
        have A11 := Aside0.mk A110
        clear A110
        replace H := Option.bind_eq_some_iff.mp H
        obtain ⟨t213, A120, H⟩ := H
        replace H : (if t213 = (-1) then ((ignore_Is.f kj3 t210 a2 false).bind fun t214 => (if t214 = true then (some false) else ((graftagelaw30_lives.f kj3).bind fun t215 => (some t215)))) else (some false)) = some r := H
        have A12 := Aside0.mk A120
        clear A120
        by_cases c13 : t213 = (-1)
        · rw [if_pos c13] at H
          have c13b0 : (t213 == (-1)) = true := beq_iff_eq.mpr c13
          have c13b1 : (t213 != (-1)) = false := bne_eq_false_iff_eq.mpr c13
          clear c13
          replace H := Option.bind_eq_some_iff.mp H
          obtain ⟨t214, A140, H⟩ := H
          replace H : (if t214 = true then (some false) else ((graftagelaw30_lives.f kj3).bind fun t215 => (some t215))) = some r := H
          have A14 := Aside0.mk A140
          clear A140
          by_cases c15 : t214 = true
          · subst c15
            have H1 : (some false) = some r := by rw [if_pos rfl] at H; exact H
            clear H
            have H := H1
            clear H1
            obtain rfl := Option.some.inj H
            go_wp2_with (first | ((with_reducible refine gate_callee (f := 7) rfl ?_); refine goesL_ (some 24) rfl rfl Tryd.func7 (by kernel_rfl) rfl #[.string a0, .string a1] rfl (by (try simp only [List.map_toArray, List.map_cons, List.map_nil]); first | done | rfl | (simp only [List.length_drop, List.length_take]; rfl)) ?_; (with_reducible refine (ignore_Parse.calls kj3 a0 a1 t210 _ A11.out).mono ?_); rintro e w16 ⟨v211, rfl, ho0, hb⟩; refine ⟨_, rfl, ?_⟩; have n0_ := Aside0.mk (Kd.R_lower ho0 (below_size (by repeat (first | (with_reducible first | exact HB.out | apply below_alloc | apply pw_below_drewN | apply below_drew1) | exact HB.out)))); have n1_ := Aside0.mk (below_step (by repeat (first | (with_reducible first | exact HB.out | apply below_alloc | apply pw_below_drewN | apply below_drew1) | exact HB.out)) hb); clear HB; have HO212 := n0_; have HB := n1_; clear n0_ n1_; (try clear hb); (try clear hb2); (try clear hk); (try clear hi); (try clear ho0); obtain ⟨Ao17, co17, eo17⟩ := Kd.R_slice HO212.out; subst eo17) | ((with_reducible refine gate_callee (f := 8) rfl ?_); refine goesL_ (some 27) rfl rfl Tryd.func8 (by kernel_rfl) rfl #[.slice Ao17 t210.length co17, .string a2, .bool true] rfl (by (try simp only [List.map_toArray, List.map_cons, List.map_nil]); first | done | rfl | (simp only [List.length_drop, List.length_take]; rfl)) ?_; (with_reducible refine (ignore_Last.calls kj3 _ _ t210 a2 true t213 _ ?side1 ?side2 A12.out).mono ?_); (case side1 => repeat (first | exact (Kd.R_reads' HO212.out).2.2 | (with_reducible refine Kd.C_alloc ?_ _) | (with_reducible refine Kd.C_drewN ?_ _) | (with_reducible refine Kd.C_drew ?_))); (case side2 => exact (Kd.R_reads' HO212.out).2.1); rintro e w18 ⟨rfl, hb⟩; refine ⟨_, rfl, ?_⟩; have n0_ := Aside0.mk (Kd.R_below (by (with_reducible repeat (first | apply Kd.R_alloc | apply Kd.R_drewN | apply Kd.R_drew)); exact HO212.out) hb); have n1_ := Aside0.mk (below_step (by repeat (first | (with_reducible first | exact HB.out | apply below_alloc | apply pw_below_drewN | apply below_drew1) | exact HB.out)) hb); clear HO212; clear HB; have HO212 := n0_; have HB := n1_; clear n0_ n1_; (try clear hb); (try clear hb2); (try clear hk); (try clear hi)) | (go_at_call 9; (with_reducible refine (ignore_Is.calls kj3 _ _ t210 a2 false true _ ?side1 ?side2 A14.out).mono ?_); (case side1 => repeat (first | exact (Kd.R_reads' HO212.out).2.2 | (with_reducible refine Kd.C_alloc ?_ _) | (with_reducible refine Kd.C_drewN ?_ _) | (with_reducible refine Kd.C_drew ?_))); (case side2 => exact (Kd.R_reads' HO212.out).2.1); rintro e w19 ⟨rfl, hb⟩; have n0_ := Aside0.mk (Kd.R_below (by (with_reducible repeat (first | apply Kd.R_alloc | apply Kd.R_drewN | apply Kd.R_drew)); exact HO212.out) hb); have n1_ := Aside0.mk (below_step (by repeat (first | (with_reducible first | exact HB.out | apply below_alloc | apply pw_below_drewN | apply below_drew1) | exact HB.out)) hb); clear HO212; clear HB; have HO212 := n0_; have HB := n1_; clear n0_ n1_; (try clear hb); (try clear hb2); (try clear hk); (try clear hi)))
            go_ret
            exact ⟨by first | rfl | (simp [errW_none, errW_some] <;> rfl) | (simp [*, errW_none, errW_some] <;> rfl) | (simp [XBase.ne_nil_bytes, XBase.eq_nil_bytes]; done), by repeat (first | (with_reducible first | exact HB.out | apply below_alloc | apply pw_below_drewN | apply below_drew1) | exact HB.out)⟩
          · replace c15 := Bool.eq_false_iff.mpr c15
            subst c15
            have H1 : ((graftagelaw30_lives.f kj3).bind fun t215 => (some t215)) = some r := by rw [if_neg (show ¬ (false = true) by decide)] at H; exact H
            clear H
            have H := H1
            clear H1
            replace H := Option.bind_eq_some_iff.mp H
            obtain ⟨t215, A200, H⟩ := H
            replace H : (some t215) = some r := H
            have A20 := Aside0.mk A200
            clear A200
            obtain rfl := Option.some.inj H
            go_wp2_with (first | ((with_reducible refine gate_callee (f := 7) rfl ?_); refine goesL_ (some 24) rfl rfl Tryd.func7 (by kernel_rfl) rfl #[.string a0, .string a1] rfl (by (try simp only [List.map_toArray, List.map_cons, List.map_nil]); first | done | rfl | (simp only [List.length_drop, List.length_take]; rfl)) ?_; (with_reducible refine (ignore_Parse.calls kj3 a0 a1 t210 _ A11.out).mono ?_); rintro e w21 ⟨v211, rfl, ho0, hb⟩; refine ⟨_, rfl, ?_⟩; have n0_ := Aside0.mk (Kd.R_lower ho0 (below_size (by repeat (first | (with_reducible first | exact HB.out | apply below_alloc | apply pw_below_drewN | apply below_drew1) | exact HB.out)))); have n1_ := Aside0.mk (below_step (by repeat (first | (with_reducible first | exact HB.out | apply below_alloc | apply pw_below_drewN | apply below_drew1) | exact HB.out)) hb); clear HB; have HO212 := n0_; have HB := n1_; clear n0_ n1_; (try clear hb); (try clear hb2); (try clear hk); (try clear hi); (try clear ho0); obtain ⟨Ao22, co22, eo22⟩ := Kd.R_slice HO212.out; subst eo22) | ((with_reducible refine gate_callee (f := 8) rfl ?_); refine goesL_ (some 27) rfl rfl Tryd.func8 (by kernel_rfl) rfl #[.slice Ao22 t210.length co22, .string a2, .bool true] rfl (by (try simp only [List.map_toArray, List.map_cons, List.map_nil]); first | done | rfl | (simp only [List.length_drop, List.length_take]; rfl)) ?_; (with_reducible refine (ignore_Last.calls kj3 _ _ t210 a2 true t213 _ ?side1 ?side2 A12.out).mono ?_); (case side1 => repeat (first | exact (Kd.R_reads' HO212.out).2.2 | (with_reducible refine Kd.C_alloc ?_ _) | (with_reducible refine Kd.C_drewN ?_ _) | (with_reducible refine Kd.C_drew ?_))); (case side2 => exact (Kd.R_reads' HO212.out).2.1); rintro e w23 ⟨rfl, hb⟩; refine ⟨_, rfl, ?_⟩; have n0_ := Aside0.mk (Kd.R_below (by (with_reducible repeat (first | apply Kd.R_alloc | apply Kd.R_drewN | apply Kd.R_drew)); exact HO212.out) hb); have n1_ := Aside0.mk (below_step (by repeat (first | (with_reducible first | exact HB.out | apply below_alloc | apply pw_below_drewN | apply below_drew1) | exact HB.out)) hb); clear HO212; clear HB; have HO212 := n0_; have HB := n1_; clear n0_ n1_; (try clear hb); (try clear hb2); (try clear hk); (try clear hi)) | (go_at_call 9; (with_reducible refine (ignore_Is.calls kj3 _ _ t210 a2 false false _ ?side1 ?side2 A14.out).mono ?_); (case side1 => repeat (first | exact (Kd.R_reads' HO212.out).2.2 | (with_reducible refine Kd.C_alloc ?_ _) | (with_reducible refine Kd.C_drewN ?_ _) | (with_reducible refine Kd.C_drew ?_))); (case side2 => exact (Kd.R_reads' HO212.out).2.1); rintro e w24 ⟨rfl, hb⟩; have n0_ := Aside0.mk (Kd.R_below (by (with_reducible repeat (first | apply Kd.R_alloc | apply Kd.R_drewN | apply Kd.R_drew)); exact HO212.out) hb); have n1_ := Aside0.mk (below_step (by repeat (first | (with_reducible first | exact HB.out | apply below_alloc | apply pw_below_drewN | apply below_drew1) | exact HB.out)) hb); clear HO212; clear HB; have HO212 := n0_; have HB := n1_; clear n0_ n1_; (try clear hb); (try clear hb2); (try clear hk); (try clear hi)) | (go_at_call 6; (with_reducible refine (graftagelaw30_lives.calls kj3  t215 _ A20.out).mono ?_); rintro e w25 ⟨rfl, hb⟩; have n0_ := Aside0.mk (Kd.R_below (by (with_reducible repeat (first | apply Kd.R_alloc | apply Kd.R_drewN | apply Kd.R_drew)); exact HO212.out) hb); have n1_ := Aside0.mk (below_step (by repeat (first | (with_reducible first | exact HB.out | apply below_alloc | apply pw_below_drewN | apply below_drew1) | exact HB.out)) hb); clear HO212; clear HB; have HO212 := n0_; have HB := n1_; clear n0_ n1_; (try clear hb); (try clear hb2); (try clear hk); (try clear hi)))
            go_ret
            exact ⟨by first | rfl | (simp [errW_none, errW_some] <;> rfl) | (simp [*, errW_none, errW_some] <;> rfl) | (simp [XBase.ne_nil_bytes, XBase.eq_nil_bytes]; done), by repeat (first | (with_reducible first | exact HB.out | apply below_alloc | apply pw_below_drewN | apply below_drew1) | exact HB.out)⟩
        · rw [if_neg c13] at H
          have c13b0 : (t213 == (-1)) = false := beq_eq_false_iff_ne.mpr c13
          have c13b1 : (t213 != (-1)) = true := bne_iff_ne.mpr c13
          obtain rfl := Option.some.inj H
          go_wp2_with (first | ((with_reducible refine gate_callee (f := 7) rfl ?_); refine goesL_ (some 24) rfl rfl Tryd.func7 (by kernel_rfl) rfl #[.string a0, .string a1] rfl (by (try simp only [List.map_toArray, List.map_cons, List.map_nil]); first | done | rfl | (simp only [List.length_drop, List.length_take]; rfl)) ?_; (with_reducible refine (ignore_Parse.calls kj3 a0 a1 t210 _ A11.out).mono ?_); rintro e w26 ⟨v211, rfl, ho0, hb⟩; refine ⟨_, rfl, ?_⟩; have n0_ := Aside0.mk (Kd.R_lower ho0 (below_size (by repeat (first | (with_reducible first | exact HB.out | apply below_alloc | apply pw_below_drewN | apply below_drew1) | exact HB.out)))); have n1_ := Aside0.mk (below_step (by repeat (first | (with_reducible first | exact HB.out | apply below_alloc | apply pw_below_drewN | apply below_drew1) | exact HB.out)) hb); clear HB; have HO212 := n0_; have HB := n1_; clear n0_ n1_; (try clear hb); (try clear hb2); (try clear hk); (try clear hi); (try clear ho0); obtain ⟨Ao27, co27, eo27⟩ := Kd.R_slice HO212.out; subst eo27) | ((with_reducible refine gate_callee (f := 8) rfl ?_); refine goesL_ (some 27) rfl rfl Tryd.func8 (by kernel_rfl) rfl #[.slice Ao27 t210.length co27, .string a2, .bool true] rfl (by (try simp only [List.map_toArray, List.map_cons, List.map_nil]); first | done | rfl | (simp only [List.length_drop, List.length_take]; rfl)) ?_; (with_reducible refine (ignore_Last.calls kj3 _ _ t210 a2 true t213 _ ?side1 ?side2 A12.out).mono ?_); (case side1 => repeat (first | exact (Kd.R_reads' HO212.out).2.2 | (with_reducible refine Kd.C_alloc ?_ _) | (with_reducible refine Kd.C_drewN ?_ _) | (with_reducible refine Kd.C_drew ?_))); (case side2 => exact (Kd.R_reads' HO212.out).2.1); rintro e w28 ⟨rfl, hb⟩; refine ⟨_, rfl, ?_⟩; have n0_ := Aside0.mk (Kd.R_below (by (with_reducible repeat (first | apply Kd.R_alloc | apply Kd.R_drewN | apply Kd.R_drew)); exact HO212.out) hb); have n1_ := Aside0.mk (below_step (by repeat (first | (with_reducible first | exact HB.out | apply below_alloc | apply pw_below_drewN | apply below_drew1) | exact HB.out)) hb); clear HO212; clear HB; have HO212 := n0_; have HB := n1_; clear n0_ n1_; (try clear hb); (try clear hb2); (try clear hk); (try clear hi)))
          go_ret
          exact ⟨by first | rfl | (simp [errW_none, errW_some] <;> rfl) | (simp [*, errW_none, errW_some] <;> rfl) | (simp [XBase.ne_nil_bytes, XBase.eq_nil_bytes]; done), by repeat (first | (with_reducible first | exact HB.out | apply below_alloc | apply pw_below_drewN | apply below_drew1) | exact HB.out)⟩

/-! ### graftageref06_Parts: function 20 -/
def graftageref06_Parts.l0 : Nat → ByteArray → List ByteArray → Int → Int → Option (List ByteArray)
  | 0, _, _, _, _ => none
  | k + 1, x0, x3, x4, x5 => if x5 < (x0.size : Int) then (if 0 ≤ x5 then (if (bt x0 x5) = 47 then (if 0 ≤ x4 then (if x4 ≤ x5 then (if x5 ≤ (x0.size : Int) then (if x3.length < 8796093022208 then (graftageref06_Parts.l0 k x0 (x3 ++ [x0.extract (x4 : Int).toNat (x5 : Int).toNat]) (wrap64 (x5 + 1)) (wrap64 (x5 + 1))) else (none)) else (none)) else (none)) else (none)) else (graftageref06_Parts.l0 k x0 x3 x4 (wrap64 (x5 + 1)))) else (none)) else (if 0 ≤ x4 then (if x4 ≤ (x0.size : Int) then (if x3.length < 8796093022208 then (some (x3 ++ [x0.extract (x4 : Int).toNat x0.size])) else (none)) else (none)) else (none))
def graftageref06_Parts.f (k : Nat) (a0 : ByteArray) : Option (List ByteArray) := if a0.toList = ([] : List UInt8) then (some ([] : List ByteArray)) else (graftageref06_Parts.l0 k a0 ([] : List ByteArray) 0 0)
theorem graftageref06_Parts.mono_l : ∀ k, (∀ y0 y1 y2 y3, LeO (graftageref06_Parts.l0 k y0 y1 y2 y3) (graftageref06_Parts.l0 (k + 1) y0 y1 y2 y3))
  | 0 => fun _ _ _ _ r h => by simp [graftageref06_Parts.l0] at h
  | k + 1 => by
    have ih0 := graftageref06_Parts.mono_l k
    · intro y0 y1 y2 y3
      unfold graftageref06_Parts.l0
      repeat' first
      | (with_reducible exact ih0 _ _ _ _)
      | (with_reducible exact LeO.refl _)
      | (with_reducible exact LeO.none _)
      | (with_reducible refine LeO.ite ?_ ?_)
      | (with_reducible refine LeO.bind ?_ (fun _ => ?_))
      | exact ih0 _ _ _ _
      | exact LeO.none _
      | refine LeO.ite ?_ ?_
      | refine LeO.bind ?_ (fun _ => ?_)
theorem graftageref06_Parts.mono : ∀ a0 k, LeO (graftageref06_Parts.f k a0) (graftageref06_Parts.f (k + 1) a0) := by
  intro a0 k
  have ih0 := graftageref06_Parts.mono_l k
  unfold graftageref06_Parts.f
  repeat' first
      | (with_reducible exact ih0 _ _ _ _)
      | (with_reducible exact LeO.refl _)
      | (with_reducible exact LeO.none _)
      | (with_reducible refine LeO.ite ?_ ?_)
      | (with_reducible refine LeO.bind ?_ (fun _ => ?_))
      | exact ih0 _ _ _ _
      | exact LeO.none _
      | refine LeO.ite ?_ ?_
      | refine LeO.bind ?_ (fun _ => ?_)
set_option maxHeartbeats 8000000 in
set_option maxRecDepth 100000 in
theorem graftageref06_Parts.calls (k : Nat) (a0 : ByteArray) (r : List ByteArray) (w : World) (h : graftageref06_Parts.f k a0 = some r) :
    Calls Tryd.prog 20 #[.string a0] w fun e w' => ∃ v0_ : Value, e = .returned (v0_) ∧ Kd.R Kd.string 9 w' w.heap.size (fun _ => True) v0_ r ∧ Below w.heap.size w w' := by
  have HB := Aside0.mk (Below.refl w.heap.size w)
  have H : (if a0.toList = ([] : List UInt8) then (some ([] : List ByteArray)) else (graftageref06_Parts.l0 k a0 ([] : List ByteArray) 0 0)) = some r := h
  clear h
  by_cases c2 : a0.toList = ([] : List UInt8)
  · rw [if_pos c2] at H
    have c2b0 : (a0.toList == ([] : List UInt8)) = true := beq_iff_eq.mpr c2
    have c2b1 : (a0.toList != ([] : List UInt8)) = false := bne_eq_false_iff_eq.mpr c2
    clear c2
    obtain rfl := Option.some.inj H
    go_enter Tryd.func20, Tryd.ntmps20
    go_wp2
    go_ret
    exact ⟨_, by first | rfl | (simp [errW_none, errW_some] <;> rfl) | (simp [*, errW_none, errW_some] <;> rfl) | (simp [XBase.ne_nil_bytes, XBase.eq_nil_bytes]; done), by first | exact Kd.R_nil _ _ _ _ _ | exact Kd.N_nil _ _ _ _ _ | exact Kd.V_nil _ _ _ _ _ | exact Kd.Q_nil _ _ _ _ _ | exact Kd.S_nil _ _ _ _ _, by repeat (first | (with_reducible first | exact HB.out | apply below_alloc | apply pw_below_drewN | apply below_drew1) | exact HB.out)⟩
  · rw [if_neg c2] at H
    have c2b0 : (a0.toList == ([] : List UInt8)) = false := beq_eq_false_iff_ne.mpr c2
    have c2b1 : (a0.toList != ([] : List UInt8)) = true := bne_iff_ne.mpr c2
    have H' := Aside0.mk H
    clear H
    go_enter Tryd.func20, Tryd.ntmps20
    go_wp2
    go_loopg [3, 4, 5] k (fun kq v3 v4 v5 w' => ∃ (x3_1 : List ByteArray) (x4_1 : Int) (x5_1 : Int), v4 = .int .i64 x4_1 ∧ v5 = .int .i64 x5_1 ∧ Aside0 (graftageref06_Parts.l0 kq a0 x3_1 x4_1 x5_1 = some r) ∧ Aside0 (kq ≤ k) ∧ Aside0 (Kd.R Kd.string 9 w' w.heap.size (fun _ => True) v3 x3_1) ∧ Aside0 (Below w.heap.size w w'))
    case atStart => exact ⟨(([] : List ByteArray)), (0), (0), (by first | rfl | (simp; done) | (simp [*]; done)), (by first | rfl | (simp; done) | (simp [*]; done)), H', ⟨Nat.le_refl _⟩, ⟨by first | exact Kd.R_nil _ _ _ _ _ | exact Kd.N_nil _ _ _ _ _ | exact Kd.V_nil _ _ _ _ _ | exact Kd.Q_nil _ _ _ _ _ | exact Kd.S_nil _ _ _ _ _⟩, ⟨by repeat (first | (with_reducible first | exact HB.out | apply below_alloc | apply pw_below_drewN | apply below_drew1) | exact HB.out)⟩⟩
    case round =>
      clear H'
      try clear c2
      try clear c2b0
      try clear c2b1
      try clear p2
      obtain ⟨x3_1, x4_1, x5_1, rfl, rfl, HA, HK1, HO_3, HB⟩ := hrel
      cases gk with
      | zero => exact absurd HA.out (by simp [graftageref06_Parts.l0])
      | succ k1 =>
        have H := HA.out
        clear HA
        simp only [graftageref06_Parts.l0] at H
        by_cases c3 : x5_1 < (a0.size : Int)
        · rw [if_pos c3] at H
          have c3b0 : decide (x5_1 < (a0.size : Int)) = true := decide_eq_true c3
          clear c3
          by_cases c4 : 0 ≤ x5_1
          · rw [if_pos c4] at H
            have c4b0 : decide (0 ≤ x5_1) = true := decide_eq_true c4
            clear c4
            by_cases c6 : (bt a0 x5_1) = 47
            · rw [if_pos c6] at H
              have c6b0 : ((bt a0 x5_1) == 47) = true := beq_iff_eq.mpr c6
              have c6b1 : ((bt a0 x5_1) != 47) = false := bne_eq_false_iff_eq.mpr c6
              clear c6
              by_cases c7 : 0 ≤ x4_1
              · rw [if_pos c7] at H
                have c7b0 := eq_true c7
                have c7b1 : decide (0 ≤ x4_1) = true := decide_eq_true c7
                clear c7
                by_cases c8 : x4_1 ≤ x5_1
                · rw [if_pos c8] at H
                  have c8b0 := eq_true c8
                  have c8b1 : decide (x4_1 ≤ x5_1) = true := decide_eq_true c8
                  clear c8
                  by_cases c9 : x5_1 ≤ (a0.size : Int)
                  · rw [if_pos c9] at H
                    have c9b0 := eq_true c9
                    have c9b1 : decide (x5_1 ≤ (a0.size : Int)) = true := decide_eq_true c9
                    clear c9
                    by_cases c10 : x3_1.length < 8796093022208
                    · rw [if_pos c10] at H
                      have LMc10 := Aside0.mk c10
                      clear c10
                      obtain ⟨y216, hy216⟩ : ∃ y_ : List ByteArray, y_ = (x3_1 ++ [a0.extract (x4_1 : Int).toNat (x5_1 : Int).toNat]) := ⟨_, rfl⟩
                      replace H : (graftageref06_Parts.l0 k1 a0 y216 (wrap64 (x5_1 + 1)) (wrap64 (x5_1 + 1))) = some r := by first | (rw [hy216]; with_reducible exact H) | (have H2_ := (Option.bind_some _ _).symm.trans H; rw [hy216]; with_reducible exact H2_) | (have H2_ := (Option.bind_some _ _).symm.trans H; with_reducible exact H2_) | with_reducible exact H | (rw [hy216]; exact H) | exact H
                      have Ny216 := Aside0.mk hy216
                      clear hy216
                      have H' := Aside0.mk H
                      clear H
                      have p5 : 0 ≤ (x5_1 : Int) := of_decide_eq_true (by first | (with_reducible assumption) | assumption)
                      have q5 : x5_1 < (a0.size : Int) := of_decide_eq_true (by first | (with_reducible assumption) | assumption)
                      have hx5 := bt_at a0 x5_1
                      replace p5 := eq_true p5
                      replace q5 := eq_true q5
                      go_wp2_with (first | ((with_reducible refine gate_builtin (b := .append) (xs := #[.tmp 18, .tmp 23]) rfl ?_); at_builtin; refine Kd.R_append Kd.string (w0 := w) w.heap.size rfl (.tmp 18) (.tmp 23) 37 9 (.string ⟨#[]⟩) 16 rfl Tryd.underlying37 info9 rfl (by decide) (by omega) u3 x3_1 (a0.extract (x4_1 : Int).toNat (x5_1 : Int).toNat) [.string (a0.extract (x4_1 : Int).toNat (x5_1 : Int).toNat)] (fun _ => True) (fun _ => False) rfl rfl ?aP (fun _ hk => hk.elim) ?aF ?aO ?aB ?aS ?aL ?_; (case aP => exact rfl); (case aB => exact (by repeat (first | (with_reducible first | exact HB.out | apply below_alloc | apply pw_below_drewN | apply below_drew1) | exact HB.out))); (case aF => exact (fun _ _ => trivial)); (case aO => exact (by (with_reducible repeat (first | apply Kd.R_alloc | apply Kd.R_drewN | apply Kd.R_drew)); exact HO_3.out)); (case aS => exact (below_size (by repeat (first | (with_reducible first | exact HB.out | apply below_alloc | apply pw_below_drewN | apply below_drew1) | exact HB.out)))); (case aL => have := LMc10.out; omega); intro v217 w11 ho hb hg hat; rw [← Ny216.out] at ho; have n0_ := Aside0.mk (hb); have n1_ := Aside0.mk (ho); clear HB; clear HO_3; have HB := n0_; have HO218 := n1_; clear n0_ n1_; clear ho hb hg hat))
                      go_roundg k1
                      case measure => have := HK1.out; omega
                      case rel => exact ⟨(y216), (wrap64 (x5_1 + 1)), (wrap64 (x5_1 + 1)), (by first | rfl | (simp; done) | (simp [*]; done)), (by first | rfl | (simp; done) | (simp [*]; done)), H', ⟨by have := HK1.out; omega⟩, ⟨by (with_reducible repeat (first | apply Kd.R_alloc | apply Kd.R_drewN | apply Kd.R_drew)); exact HO218.out⟩, ⟨by repeat (first | (with_reducible first | exact HB.out | apply below_alloc | apply pw_below_drewN | apply below_drew1) | exact HB.out)⟩⟩
                    · rw [if_neg c10] at H
                      exact absurd H (by simp)
                  · rw [if_neg c9] at H
                    exact absurd H (by simp)
                · rw [if_neg c8] at H
                  exact absurd H (by simp)
              · rw [if_neg c7] at H
                exact absurd H (by simp)
            · rw [if_neg c6] at H
              have c6b0 : ((bt a0 x5_1) == 47) = false := beq_eq_false_iff_ne.mpr c6
              have c6b1 : ((bt a0 x5_1) != 47) = true := bne_iff_ne.mpr c6
              have H' := Aside0.mk H
              clear H
              have p5 : 0 ≤ (x5_1 : Int) := of_decide_eq_true (by first | (with_reducible assumption) | assumption)
              have q5 : x5_1 < (a0.size : Int) := of_decide_eq_true (by first | (with_reducible assumption) | assumption)
              have hx5 := bt_at a0 x5_1
              replace p5 := eq_true p5
              replace q5 := eq_true q5
              go_wp2
              go_roundg k1
              case measure => have := HK1.out; omega
              case rel => exact ⟨(x3_1), (x4_1), (wrap64 (x5_1 + 1)), (by first | rfl | (simp; done) | (simp [*]; done)), (by first | rfl | (simp; done) | (simp [*]; done)), H', ⟨by have := HK1.out; omega⟩, ⟨by (with_reducible repeat (first | apply Kd.R_alloc | apply Kd.R_drewN | apply Kd.R_drew)); exact HO_3.out⟩, ⟨by repeat (first | (with_reducible first | exact HB.out | apply below_alloc | apply pw_below_drewN | apply below_drew1) | exact HB.out)⟩⟩
          · rw [if_neg c4] at H
            exact absurd H (by simp)
        · rw [if_neg c3] at H
          have c3b0 : decide (x5_1 < (a0.size : Int)) = false := decide_eq_false c3
          clear c3
          by_cases c12 : 0 ≤ x4_1
          · rw [if_pos c12] at H
            have c12b0 := eq_true c12
            have c12b1 : decide (0 ≤ x4_1) = true := decide_eq_true c12
            clear c12
            by_cases c13 : x4_1 ≤ (a0.size : Int)
            · rw [if_pos c13] at H
              have c13b0 := eq_true c13
              have c13b1 : decide (x4_1 ≤ (a0.size : Int)) = true := decide_eq_true c13
              clear c13
              by_cases c14 : x3_1.length < 8796093022208
              · rw [if_pos c14] at H
                have LMc14 := Aside0.mk c14
                clear c14
                obtain ⟨y219, hy219⟩ : ∃ y_ : List ByteArray, y_ = (x3_1 ++ [a0.extract (x4_1 : Int).toNat a0.size]) := ⟨_, rfl⟩
                replace H : (some y219) = some r := by first | (rw [hy219]; with_reducible exact H) | (have H2_ := (Option.bind_some _ _).symm.trans H; rw [hy219]; with_reducible exact H2_) | (have H2_ := (Option.bind_some _ _).symm.trans H; with_reducible exact H2_) | with_reducible exact H | (rw [hy219]; exact H) | exact H
                have Ny219 := Aside0.mk hy219
                clear hy219
                obtain rfl := Option.some.inj H
                go_wp2_with (first | ((with_reducible refine gate_builtin (b := .append) (xs := #[.tmp 27, .tmp 31]) rfl ?_); at_builtin; refine Kd.R_append Kd.string (w0 := w) w.heap.size rfl (.tmp 27) (.tmp 31) 37 9 (.string ⟨#[]⟩) 16 rfl Tryd.underlying37 info9 rfl (by decide) (by omega) u3 x3_1 (a0.extract (x4_1 : Int).toNat a0.size) [.string (a0.extract (x4_1 : Int).toNat a0.size)] (fun _ => True) (fun _ => False) rfl rfl ?aP (fun _ hk => hk.elim) ?aF ?aO ?aB ?aS ?aL ?_; (case aP => exact rfl); (case aB => exact (by repeat (first | (with_reducible first | exact HB.out | apply below_alloc | apply pw_below_drewN | apply below_drew1) | exact HB.out))); (case aF => exact (fun _ _ => trivial)); (case aO => exact (by (with_reducible repeat (first | apply Kd.R_alloc | apply Kd.R_drewN | apply Kd.R_drew)); exact HO_3.out)); (case aS => exact (below_size (by repeat (first | (with_reducible first | exact HB.out | apply below_alloc | apply pw_below_drewN | apply below_drew1) | exact HB.out)))); (case aL => have := LMc14.out; omega); intro v220 w15 ho hb hg hat; rw [← Ny219.out] at ho; have n0_ := Aside0.mk (hb); have n1_ := Aside0.mk (ho); clear HB; clear HO_3; have HB := n0_; have HO221 := n1_; clear n0_ n1_; clear ho hb hg hat))
                go_ret
                exact ⟨_, by first | rfl | (simp [errW_none, errW_some] <;> rfl) | (simp [*, errW_none, errW_some] <;> rfl) | (simp [XBase.ne_nil_bytes, XBase.eq_nil_bytes]; done), by (with_reducible repeat (first | apply Kd.R_alloc | apply Kd.R_drewN | apply Kd.R_drew)); exact HO221.out, by repeat (first | (with_reducible first | exact HB.out | apply below_alloc | apply pw_below_drewN | apply below_drew1) | exact HB.out)⟩
              · rw [if_neg c14] at H
                exact absurd H (by simp)
            · rw [if_neg c13] at H
              exact absurd H (by simp)
          · rw [if_neg c12] at H
            exact absurd H (by simp)

end Go.Proofs.YtabimfpjdcggaaaDoor.X
