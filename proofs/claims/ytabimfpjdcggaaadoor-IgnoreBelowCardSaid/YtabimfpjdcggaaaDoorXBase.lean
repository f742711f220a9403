/- Small facts for the hand-proved functions of this seat: rows laid whole by a callee, strings of one byte. -/
import Derived.Test.YtabimfpjdcggaaaDoorWWords
import Derived.Test.YtabimfpjdcggaaaDoorWMore
import Derived.Lib.Hide
namespace Go.Proofs.YtabimfpjdcggaaaDoor.XBase
open Go.RowKit Go.Proofs.YtabimfpjdcggaaaDoorW.PrintWords

/-- A new block that holds a list's encodings is a row of one's own. -/
theorem R_of_alloc {α : Type} {enc : α → Value} {h1 : ∀ x : α, (enc x).oneCell' = true} (xs : List α) (e : TypeId) (w : World) (hl : xs.length ≤ maxLen) :
    (Kd.scalar enc h1).R e (w.alloc (.cells (xs.map enc).toArray e)) w.heap.size (fun _ => True) (.slice (some ⟨w.heap.size, 0, none⟩) xs.length xs.length) xs := by
  refine ⟨fun _ _ => trivial, xs.map enc, ⟨by simp [Kd.scalar], .inr ⟨w.heap.size, xs.length, (xs.map enc).toArray, rfl, Nat.le_refl _, ?_, Nat.le_refl _, hl, by simp [Kd.scalar], ?_⟩⟩, ?_⟩
  · exact heap_alloc_new w _
  · simp [Kd.scalar, List.take_of_length_le]
  · refine ⟨by simp [Kd.scalar], fun j p hj => ?_⟩
    have hlt := (List.getElem?_eq_some_iff.1 hj).1
    show ((xs.map enc).drop (j * 1)).take 1 = [enc p]
    rw [Nat.mul_one]
    have : (xs.map enc)[j]? = some (enc p) := by rw [List.getElem?_map, hj]; rfl
    rw [List.take_one, List.head?_drop, this]
    rfl

theorem below_of_alloc (w : World) (o : Obj) : Below w.heap.size w (w.alloc o) := (Below.refl _ _).alloc (Nat.le_refl _) o

/-- A string of one byte. -/
theorem one_byte {a : ByteArray} (h : a.size = 1) : a = ⟨#[a.data.getD 0 0]⟩ := by
  cases a with
  | mk d =>
    have hd : d.size = 1 := h
    have : d = #[d.getD 0 0] := by
      apply Array.ext
      · simp [hd]
      · intro i h1 h2
        have : i = 0 := by omega
        subst this
        simp [Array.getD, hd]
    rw [← this]

/-- All old cells, and all old marks, as they were. -/
theorem bcell {W w1 : World} (hb : Below W.heap.size W w1) : (∀ b o, b < W.heap.size → w1.cell? ⟨b, o, none⟩ = W.cell? ⟨b, o, none⟩) ∧ (∀ b o, b < W.heap.size → w1.frozen? ⟨b, o, none⟩ = W.frozen? ⟨b, o, none⟩) :=
  ⟨fun b o h => hb.cell (p := ⟨b, o, none⟩) h, fun b o h => hb.frozen (p := ⟨b, o, none⟩) h⟩
theorem setCell_drewN (w : World) (n : Nat) (a : Addr) (v : Value) : (w.drewN n).setCell a v = (w.setCell a v).drewN n := rfl
theorem ne_nil_bytes (l : List UInt8) : (l != []) = !l.isEmpty := by cases l <;> rfl
theorem eq_nil_bytes (l : List UInt8) : (l == []) = l.isEmpty := by cases l <;> rfl

end Go.Proofs.YtabimfpjdcggaaaDoor.XBase
