/- Arguments with depth, opened: what reads as data at a type is a value of the type's kind in memory, within the reach's bounds. Plain theorems over any program. -/
import Derived.Test.YtabimfpjdcggaaaDoorWWords
import Derived.Deep.Slices
import Derived.Deep.Fields
import Derived.ChangeSame
import Derived.SizedLaws
namespace Go.Proofs.YtabimfpjdcggaaaDoor.XOpen
open Go.RowKit Go.Deep Go.ChangeShapes Go.WideShapes Go.Proofs.YtabimfpjdcggaaaDoorW.PrintWords

/-- What reads as data at type t, its strings and slices within reach, is of kind k, and b holds of it. -/
structure Opens (P : Program) (t : TypeId) {α : Type} (k : Kd α) (b : α → Prop) : Prop where
  out : ∀ {H : Type} {enc : TypeId × Value → H} {w : World} {base : Nat} {spare : Nat → Bool} {held : Bool} {fuel : Nat} {cs : List Value} {x : DataW H × List MemPlace},
    DataW.trod enc P w base spare held fuel t cs = some x → (x.1.weights P t).all (· ≤ reachBytes) = true → ∃ a, k.K w a cs ∧ b a

theorem list_of {α : Type} (Q : Nat → α → Prop) : ∀ (n : Nat), (∀ i, i < n → ∃ x, Q i x) → ∃ xs : List α, xs.length = n ∧ ∀ i x, xs[i]? = some x → Q i x
  | 0, _ => ⟨[], rfl, fun i x h => by simp at h⟩
  | n + 1, h => by
    obtain ⟨xs, hl, hx⟩ := list_of Q n (fun i hi => h i (by omega))
    obtain ⟨y, hy⟩ := h n (by omega)
    refine ⟨xs ++ [y], by simp [hl], fun i x hi => ?_⟩
    rcases Nat.lt_or_ge i xs.length with hlt | hge
    · rw [List.getElem?_append_left hlt] at hi
      exact hx i x hi
    · rw [List.getElem?_append_right hge] at hi
      have : i = n := by
        have := (List.getElem?_eq_some_iff.1 hi).1
        simp at this
        omega
      subst this
      have e : i - xs.length = 0 := by omega
      rw [e] at hi
      simp at hi
      rw [← hi]; exact hy

theorem opens_string {P : Program} {t : TypeId} (ht : P.underlying t = some .string) : Opens P t Kd.string (fun s => s.size ≤ 140737488351232) := ⟨fun {H enc w base spare held fuel cs x} h hw => by
  obtain ⟨s, rfl, rfl, _⟩ := DataW.trod_string ht h
  refine ⟨s, rfl, ?_⟩
  simp only [DataW.weights, List.all_cons, List.all_nil, Bool.and_true, decide_eq_true_eq, Array.length_toList] at hw
  exact hw⟩
theorem opens_int {P : Program} {t : TypeId} {k : IntKind} (ht : P.underlying t = some (.int k)) : Opens P t (Kd.int k) (fun n => (Lit.int k n).wf = true) := ⟨fun {H enc w base spare held fuel cs x} h _ => by
  obtain ⟨n, rfl, rfl, hn⟩ := DataW.trod_int ht h
  exact ⟨n, rfl, hn⟩⟩
theorem opens_bool {P : Program} {t : TypeId} (ht : P.underlying t = some .bool) : Opens P t Kd.bool (fun _ => True) := ⟨fun {H enc w base spare held fuel cs x} h _ => by
  obtain ⟨n, rfl, rfl⟩ := DataW.trod_bool ht h
  exact ⟨n, rfl, trivial⟩⟩
theorem weightsAll_mem {H : Type} {P : Program} {e : TypeId} : ∀ (l : List (DataW H)) (d : DataW H), d ∈ l → ∀ n, n ∈ d.weights P e → n ∈ DataW.weightsAll P e l
  | d0 :: l, d, hd, n, hn => by
    simp only [DataW.weightsAll, List.mem_append]
    rcases List.mem_cons.mp hd with rfl | hd
    · exact .inl hn
    · exact .inr (weightsAll_mem l d hd n hn)
theorem opens_slice {P : Program} {t e : TypeId} {α : Type} {k : Kd α} {b : α → Prop} (ht : P.underlying t = some (.slice e)) (he : Opens P e k b) (hs : k.sz = P.cellsOf e) :
    Opens P t (Kd.slice e k) (fun l => l.length * P.bytesOf e ≤ 140737488351232 ∧ l.length ≤ 9223372036854775807 ∧ ∀ x, x ∈ l → b x) := ⟨fun {H enc w base spare held fuel cs x} h hw => by
  rcases open_slice ht h with ⟨rfl, rfl⟩ | ⟨a, len, cap, m, n, D, Pl, rfl, hb, hl, hm, hmm, rfl, hi⟩
  · exact ⟨[], ⟨none, 0, rfl, Nat.le_refl _, rfl, by simp, fun h => absurd h (by simp)⟩, by simp, by simp, fun x h => by simp at h⟩
  · simp only [DataW.weights, ht, List.all_cons, Bool.and_eq_true, decide_eq_true_eq, List.length_map, List.length_range] at hw
    have hlm : len ≤ m := by rw [hmm]; split <;> omega
    have hw2 := List.all_eq_true.mp hw.2
    obtain ⟨xs, hxl, hx⟩ := list_of (fun i x => ∃ c, c.length = k.sz ∧ k.K w x c ∧ (∀ j u, c[j]? = some u → w.cell? (a.add (i * k.sz + j)) = some u) ∧ b x) len (fun i hil => by
      obtain ⟨cs', hc, ht'⟩ := hi i (by omega)
      obtain ⟨_, hcl, hat⟩ := World.cells?_some hc
      obtain ⟨y, hy, hby⟩ := he.out ht' (List.all_eq_true.mpr fun n hn => hw2 n (List.mem_append_left _ (weightsAll_mem _ _ (List.mem_map.mpr ⟨i, List.mem_range.mpr hil, rfl⟩) n hn)))
      refine ⟨y, cs', by rw [hs]; exact hcl, hy, fun j u hj => ?_, hby⟩
      have hjl := (List.getElem?_eq_some_iff.1 hj).1
      have := hat j (by omega)
      rw [hs, ← Go.Deep.add_add, this, hj])
    have hmax : len ≤ 9223372036854775807 := by have : cap ≤ 9223372036854775807 := hm; omega
    refine ⟨xs, ⟨some a, cap, by rw [hxl], by rw [hxl]; exact hl, ⟨rfl, by rw [hxl]; exact hmax, fun _ => ⟨a, rfl, fun j p hp => ?_⟩⟩⟩, ?_, by rw [hxl]; exact hmax, fun x hxm => ?_⟩
    · obtain ⟨c, h1, h2, h3, _⟩ := hx j p hp
      exact ⟨c, h1, h2, h3⟩
    · rw [hxl]
      have h1 : (len + (m - len)) * P.bytesOf e ≤ 140737488351232 := hw.1
      exact Nat.le_trans (Nat.mul_le_mul_right _ (by omega)) h1
    · obtain ⟨j, hj⟩ := List.getElem?_of_mem hxm
      exact (hx j x hj).choose_spec.2.2.2⟩

/-- A struct's fields from one on, as they lie behind each other. -/
structure OpensF (P : Program) (o : Nat) (fs : List (TypeId × Nat)) {α : Type} (k : Kd α) (b : α → Prop) : Prop where
  out : ∀ {H : Type} {enc : TypeId × Value → H} {w : World} {base : Nat} {spare : Nat → Bool} {held : Bool} {fuel : Nat} {cs : List Value} {xs : List (DataW H × List MemPlace)},
    cs.length = o + k.sz → xs.length = fs.length → (∀ (i : Nat) f, fs[i]? = some f → DataW.trod enc P w base spare held fuel f.1 ((cs.drop f.2).take (P.cellsOf f.1)) = xs[i]?) →
    (DataW.weightsEach P (fs.map (·.1)) (xs.map (·.1))).all (· ≤ reachBytes) = true → ∃ a, k.K w a (cs.drop o) ∧ b a
theorem opensF_one {P : Program} {o : Nat} {t : TypeId} {α : Type} {k : Kd α} {b : α → Prop} (h : Opens P t k b) (hs : k.sz = P.cellsOf t) : OpensF P o [(t, o)] k b := ⟨fun {H enc w base spare held fuel cs xs} hl hx ht hw => by
  match xs, hx with
  | [y], _ =>
    have h0 := ht 0 (t, o) rfl
    dsimp only at h0
    rw [List.take_of_length_le (by rw [List.length_drop]; omega)] at h0
    refine h.out h0 ?_
    simpa [DataW.weightsEach] using hw⟩
theorem opensF_cons {P : Program} {o : Nat} {t : TypeId} {fs : List (TypeId × Nat)} {α β : Type} {k : Kd α} {b : α → Prop} {k2 : Kd β} {b2 : β → Prop} (h : Opens P t k b) (hs : k.sz = P.cellsOf t) (hr : OpensF P (o + P.cellsOf t) fs k2 b2) :
    OpensF P o ((t, o) :: fs) (Kd.pair k k2) (fun x => b x.1 ∧ b2 x.2) := ⟨fun {H enc w base spare held fuel cs xs} hl hx ht hw => by
  match xs, hx with
  | y :: ys, hx =>
    have h0 := ht 0 (t, o) rfl
    simp only [List.map_cons, DataW.weightsEach, List.all_append, Bool.and_eq_true] at hw
    have hl2 : cs.length = o + (k.sz + k2.sz) := hl
    obtain ⟨a1, h1, hb1⟩ := h.out h0 hw.1
    obtain ⟨a2, h2, hb2⟩ := hr.out (cs := cs) (xs := ys) (by omega) (by simpa using hx) (fun i f hf => by have := ht (i + 1) f (by simpa using hf); simpa using this) hw.2
    refine ⟨(a1, a2), ⟨_, _, ?_, h1, h2⟩, hb1, hb2⟩
    rw [← List.drop_drop, List.take_append_drop]⟩
theorem opens_struct {P : Program} {t : TypeId} {fs : Array Field} {α β : Type} {k : Kd α} {b : α → Prop} {f : β → α} {g : α → β} (hu : P.underlying t = some (.struct fs)) (hf : OpensF P 0 (fs.toList.map fun f => (f.type, f.offset)) k b)
    (hs : k.sz = P.cellsOf t) (hg : ∀ x, f (g x) = x) : Opens P t (Kd.iso k f) (fun y => b (f y)) := ⟨fun {H enc w base spare held fuel cs x} h hw => by
  obtain ⟨xs, n, rfl, rfl, hl, hxl, hi⟩ := DataW.trod_struct hu h
  obtain ⟨a, ha, hb⟩ := hf.out (w := w) (cs := cs) (xs := xs) (by omega) (by simp [hxl]) (fun i y hy => by
    rw [List.getElem?_map, Option.map_eq_some_iff] at hy
    obtain ⟨f, hf, rfl⟩ := hy
    exact hi i f (by simpa using hf)) (by
    simp only [DataW.weights, hu] at hw
    rw [List.map_map]
    exact hw)
  exact ⟨g a, by show k.K w (f (g a)) cs; rw [hg]; simpa using ha, by rw [hg]; exact hb⟩⟩
end Go.Proofs.YtabimfpjdcggaaaDoor.XOpen
