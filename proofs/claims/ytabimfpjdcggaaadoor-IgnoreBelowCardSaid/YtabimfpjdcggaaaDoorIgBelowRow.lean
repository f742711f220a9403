/- Everything within an ignored directory is ignored and left out by Files: for every list of rules, directory, path and folder bit, the call returns true. Condition: none beyond the row's own (two tables of Go's library lie as their text lays them, tied by the card). -/
import Derived.Test.YtabimfpjdcggaaaDoorIgBelow
import Derived.Test.YtabimfpjdcggaaaDoorXOpen
import Derived.Test.YtabimfpjdcggaaaDoorRows
import Derived.Test.YtabimfpjdcggaaaDoorCards
import Derived.Test.YtabimfpjdcggaaaDoorTie
import Derived.ProofKit
import Derived.OpenShut
import Derived.ShutString
import Derived.ChangeOld
import Derived.SizedLaws
import Derived.Below
import Derived.Carry
import Derived.Lay
import Derived.MakeChecks
import Derived.SevenTiedAt
namespace Go.Proofs.YtabimfpjdcggaaaDoor.ignoreBelow
open Go.ChangeShapes Go.WideShapes Go.ChangeAt Go.RowKit Go.Proofs.YtabimfpjdcggaaaDoorW.PrintWords XOpen
open Go.ChangeMaps (open_string shut_string)
theorem own : ownKnob Tryd.prog.godebug = none := by kernel_rfl
theorem laidOut : laidOutB Tryd.prog = true := by kernel_rfl
theorem opens40 : Opens Tryd.prog 40 X.k40 (fun y => y.f0.size ≤ 140737488351232 ∧ y.f1.size ≤ 140737488351232 ∧ True ∧ True ∧ True) :=
  opens_struct (f := fun x : X.S40 => (x.f0, x.f1, x.f2, x.f3, x.f4)) (g := fun p => ⟨p.1, p.2.1, p.2.2.1, p.2.2.2.1, p.2.2.2.2⟩) Tryd.underlying40
    (opensF_cons (opens_string Tryd.underlying9) (by kernel_rfl) (opensF_cons (opens_string Tryd.underlying9) (by kernel_rfl) (opensF_cons (opens_bool Tryd.underlying4) (by kernel_rfl) (opensF_cons (opens_bool Tryd.underlying4) (by kernel_rfl) (opensF_one (opens_bool Tryd.underlying4) (by kernel_rfl)))))) (by kernel_rfl) (fun _ => rfl)
theorem opens30 : Opens Tryd.prog 30 (Kd.iso (Kd.pair (Kd.slice 40 X.k40) (Kd.pair Kd.string (Kd.pair Kd.string Kd.bool))) (fun x => x)) (fun y => (y.1.length * Tryd.prog.bytesOf 40 ≤ 140737488351232 ∧ y.1.length ≤ 9223372036854775807 ∧ ∀ x, x ∈ y.1 → (x.f0.size ≤ 140737488351232 ∧ x.f1.size ≤ 140737488351232 ∧ True ∧ True ∧ True)) ∧ y.2.1.size ≤ 140737488351232 ∧ y.2.2.1.size ≤ 140737488351232 ∧ True) :=
  opens_struct (f := fun x => x) (g := fun x => x) Tryd.underlying30
    (opensF_cons (opens_slice Tryd.underlying24 opens40 (by kernel_rfl)) (by kernel_rfl) (opensF_cons (opens_string Tryd.underlying9) (by kernel_rfl) (opensF_cons (opens_string Tryd.underlying9) (by kernel_rfl) (opensF_one (opens_bool Tryd.underlying4) (by kernel_rfl))))) (by kernel_rfl) (fun _ => rfl)
set_option maxRecDepth 100000 in
theorem lifted (os : Os) (started : os.Started) (H : Type) (enc : TypeId × Value → H) :
    ReturnsInHanded {} Tryd.checked os 4 .any (fun w args => (Rows.ignoreBelowSpec.pre enc Tryd.prog Tryd.f4 [] false w args ∧ laidMetH Tryd.prog Rows.ignoreBelowRow.laid w) ∧ sizedMet enc Tryd.prog Tryd.f4 (OpenSpec.ofChange Rows.ignoreBelowSpec) false w args)
      (Rows.ignoreBelowSpec.post enc Tryd.prog Tryd.f4 false true false false) := by
  refine returnsInHanded_of_change_and (C := Tryd.checked) (X := fun w _ => laidMetH Tryd.prog Rows.ignoreBelowRow.laid w) (fun _ _ _ hh h => h.of_heap hh) own started (by kernel_rfl) Tryd.func4
    (ChangeSpec.witness_shaped (enc := enc) (C := Tryd.checked) (os := os) (X := fun w _ => laidMetH Tryd.prog Rows.ignoreBelowRow.laid w) false (World.laidAll Tryd.prog os Rows.ignoreBelowRow.laid) #[.agg #[.slice none 0 0, .string ByteArray.empty, .string ByteArray.empty, .bool false]] 8 (World.laidAll_os _ _ _)
      (World.shaped_of_ZipB (by kernel_rfl) (by kernel_rfl)) (by kernel_rfl) (by kernel_rfl) (by kernel_rfl)
      (by rw [MakeChecks.laidMetH_plain _ _ _ (by kernel_rfl)]; exact laidMet_laidAll _ (by kernel_rfl) (by kernel_rfl))) ?_
  intro W base args ds gs before hval0 hW _ hsz0 _ _
  have hsz : (DataW.weightsEach Tryd.prog (Tryd.f4.params.toList ++ Rows.ignoreBelowSpec.plain.varTypes Tryd.prog) (ds ++ gs)).all (· ≤ reachBytes) = true := hsz0
  have hval : ∀ (j : Nat) t v, Tryd.f4.params[j]? = some t → args[j]? = some v → Value.okWide Tryd.prog W .any base t v := hval0
  have hW' := hW
  obtain ⟨p, q, hA0, hV, rfl, hfz, hnd⟩ := hW
  have hA : DataW.TrodAll enc Tryd.prog W 0 (fun _ => true) true Tryd.f4.params.toList args.toList ds p := hA0
  rw [Tryd.params4] at hA hval hsz
  obtain ⟨v0, d0, rfl, rfl, h0⟩ := trodAll_one hA
  obtain ⟨rfl, rfl⟩ := trodVars_none hV
  obtain ⟨cs, rfl, _⟩ := okWide_struct Tryd.underlying30 (hval 0 30 v0 rfl rfl)
  have k0 := h0
  have lt0 : ∀ x ∈ p, x.block < W.heap.size := by obtain ⟨m, hm⟩ := k0; exact DataW.trod_lt m _ _ _ hm
  obtain ⟨fuel, hf⟩ := h0
  obtain ⟨⟨l, s1, s2, b⟩, hK, ⟨_, _, hb1⟩, hb2, hb3, _⟩ := opens30.out hf (List.all_eq_true.mpr fun n hn => List.all_eq_true.1 hsz _ (DataW.weights_mem_each (j := 0) rfl rfl n hn))
  obtain ⟨c0, c1, hcs, ⟨A, c, rfl, hlc, hC⟩, c2, c3, rfl, rfl, c4, c5, rfl, rfl, rfl⟩ := hK
  have hcs2 : cs = #[.slice A l.length c, .string s1, .string s2, .bool b] := by
    apply Array.ext'
    exact hcs
  subst hcs2
  clear hA0 hval0 hsz0 hsz hf
  obtain ⟨k, hk⟩ := X.below_pure l s1 s2 b hb2 hb3 (fun r hr => (hb1 r hr).2.1)
  refine (X.graftagelaw30_IgnoreBelow.calls k A c l s1 s2 b true W hC hlc hk).mono fun e W' ⟨he, bel⟩ => ?_
  subst he
  exact ⟨_, rfl, _, _, _, [], _, [], hW', trodAll_mk1 (shut_bool Tryd.underlying4 _), trodAll_mk1 (Below.trod laidOut (by kernel_rfl) (of_decide_eq_true (by kernel_rfl)) k0 bel lt0), rfl, bel.frame _, fun h => by cases h⟩
theorem over : Rows.IgnoreBelowSaid :=
  OpenClaim.holds_of_wide 4 Tryd.f4 rfl rfl rfl rfl rfl rfl rfl ⟨rfl, rfl, rfl, rfl, rfl⟩ rfl rfl rfl rfl rfl (by kernel_rfl) Tryd.func4 (by kernel_rfl)
    (of_decide_eq_true (by kernel_rfl)) (by unfold Func.isWrapper; first | (rw [if_pos (by decide +kernel)]; kernel_rfl) | (rw [if_neg (by decide +kernel)]; exact ⟨rfl, rfl⟩))
    (fun os started H enc _ => lifted os started H enc)
theorem card : Rows.IgnoreBelowCardSaid :=
  Claim7.holds_tied_plain_at .later [] [.data, .pinned] true (true, "b8a8ce38f13b044790be72501e2c1f0372f96320ee7bbadcad2e986706035b05") false over (fun _ h => by cases h) (by kernel_rfl) (fun _ h => by cases h) ignoreBelow_row_tie rfl ⟨rfl, rfl⟩ (by kernel_rfl) rfl
    (fun f fn hf hfn => by
      obtain rfl : f = 4 := Option.some.inj ((show Tryd.prog.funcNamed "graftage/graftagelaw30.IgnoreBelow" = some 4 by kernel_rfl).symm.trans hf) |>.symm
      obtain rfl : fn = Tryd.f4 := (Option.some.inj (Tryd.func4.symm.trans hfn)).symm
      exact ⟨by kernel_rfl, fun j t ht => by
        rw [Tryd.params4] at ht
        have hm : t ∈ [30] := by simpa using Array.mem_of_getElem? ht
        have hall : ([30].all fun u => !Tryd.prog.wantsStandIn u) = true := by kernel_rfl
        exact (show Tryd.prog.wantsStandIn t = false by simpa using List.all_eq_true.1 hall t hm)⟩)
    (by kernel_rfl)
#print axioms card
end Go.Proofs.YtabimfpjdcggaaaDoor.ignoreBelow
namespace Go.Proofs.YtabimfpjdcggaaaDoor
/-- The card, under a short name, for the claim. -/
theorem ignoreBelow_card : Rows.IgnoreBelowCardSaid := ignoreBelow.card
end Go.Proofs.YtabimfpjdcggaaaDoor
