/- Everything within an ignored directory is ignored, and left out by Files: the plain side. -/
import Derived.Test.YtabimfpjdcggaaaDoorXGlob
namespace Go.Proofs.YtabimfpjdcggaaaDoor.X
open Go.RowKit Go.Proofs.YtabimfpjdcggaaaDoorW.PrintWords Go.Proofs.YtabimfpjdcggaaaDoorW.PrintLast Go.Proofs.YtabimfpjdcggaaaDoorW.PrintMore
open XPlain

theorem lastIndex_lt (s : ByteArray) : -1 ≤ Lib.lastIndexByte s 47 ∧ Lib.lastIndexByte s 47 < s.size := by
  rcases Lib.lastIndexByte_spec s 47 with ⟨e, _⟩ | ⟨i, hi, e, _⟩ <;> rw [e] <;> omega
theorem has_tot (r : S40) (p : ByteArray) (fo : Bool) (hp : p.size ≤ 999999) (hd : r.f1.size ≤ 140737488351232) : ∃ b, Ev (fun k => ignore_Has.f k r.f0 r.f1 r.f2 r.f3 r.f4 p fo) b := by
  have e : ∀ x7 x0 x1 x2 x3 x4 k, ignore_Has.j0 (k + 1) p x7 x0 x1 x2 x3 x4 = if x7 = true then (some false) else (if x4 = true then (if x1.toList = ([] : List UInt8) then ((glob_Match.f k x0 p).bind fun t193 => (some t193)) else (if 0 ≤ (wrap64 ((x1.size : Int) + 1)) then (if (wrap64 ((x1.size : Int) + 1)) ≤ (p.size : Int) then ((glob_Match.f k x0 (p.extract ((wrap64 ((x1.size : Int) + 1)) : Int).toNat p.size)).bind fun t194 => (some t194)) else (none)) else (none))) else ((path_Name.f p).bind fun t195 => ((glob_Part.f k x0 t195).bind fun t196 => (some t196)))) := fun _ _ _ _ _ _ k => by simp only [ignore_Has.j0]
  have jt : Ev (fun k => ignore_Has.j0 k p true r.f0 r.f1 r.f2 r.f3 r.f4) false := Ev.step (e _ _ _ _ _ _) (Ev.pos rfl (Ev.now false))
  have jf : within r.f1 p → ∃ b, Ev (fun k => ignore_Has.j0 k p false r.f0 r.f1 r.f2 r.f3 r.f4) b := fun hw => by
    by_cases h4 : r.f4 = true
    · by_cases h1 : r.f1.toList = ([] : List UInt8)
      · obtain ⟨b, hb⟩ := match_tot r.f0 p hp
        exact ⟨b, Ev.step (e _ _ _ _ _ _) (Ev.neg (by decide) (Ev.pos h4 (Ev.pos h1 (Ev.bind hb (Ev.now b)))))⟩
      · have h0 : ¬ r.f1.size = 0 := fun h => h1 ((toList_empty _).mpr h)
        have hlt : r.f1.size + 1 < p.size := by
          rcases hw with ⟨h, _⟩ | ⟨_, h, _⟩
          · exact absurd h h0
          · exact h
        have w1 : wrap64 ((r.f1.size : Int) + 1) = (r.f1.size : Int) + 1 := wrap_in (by omega) (by omega)
        obtain ⟨b, hb⟩ := match_tot r.f0 (p.extract (wrap64 ((r.f1.size : Int) + 1) : Int).toNat p.size) (Nat.le_trans (size_extract_le _ _ _) hp)
        exact ⟨b, Ev.step (e _ _ _ _ _ _) (Ev.neg (by decide) (Ev.pos h4 (Ev.neg h1 (Ev.pos (by omega) (Ev.pos (by omega) (Ev.bind hb (Ev.now b)))))))⟩
    · have hl := lastIndex_lt p
      have w1 : wrap64 (Lib.lastIndexByte p 47 + 1) = Lib.lastIndexByte p 47 + 1 := wrap_in (by omega) (by omega)
      obtain ⟨b, hb⟩ := globPartF_tot r.f0 (p.extract (wrap64 (Lib.lastIndexByte p 47 + 1) : Int).toNat p.size) (Nat.le_trans (size_extract_le _ _ _) (by omega))
      have hn : path_Name.f p = some (p.extract (wrap64 (Lib.lastIndexByte p 47 + 1) : Int).toNat p.size) := by
        unfold path_Name.f strings_LastIndexByte.f
        rw [if_pos (by omega), Option.bind_some, if_pos (by omega), if_pos (by omega)]
      exact ⟨b, Ev.step (e _ _ _ _ _ _) (Ev.neg (by decide) (Ev.neg h4 (Ev.val hn (Ev.bind hb (Ev.now b)))))⟩
  unfold ignore_Has.f
  obtain ⟨a, ha⟩ := is_tot p
  cases a with
  | false => exact ⟨_, Ev.bind ha (Ev.neg (by decide) jt)⟩
  | true =>
    obtain ⟨b, hb⟩ := folder_tot r.f1
    cases b with
    | false => exact ⟨_, Ev.bind ha (Ev.pos rfl (Ev.bind hb (Ev.neg (by decide) jt)))⟩
    | true =>
      by_cases hw : within r.f1 p
      · obtain ⟨b2, hb2⟩ := jf hw
        by_cases h3 : r.f3 = true
        · cases fo with
          | true => exact ⟨b2, Ev.bind ha (Ev.pos rfl (Ev.bind hb (Ev.pos rfl (Ev.val (pathWithin_val r.f1 p hd) (Ev.pos (by simpa using hw) (Ev.pos h3 hb2))))))⟩
          | false => exact ⟨false, Ev.bind ha (Ev.pos rfl (Ev.bind hb (Ev.pos rfl (Ev.val (pathWithin_val r.f1 p hd) (Ev.pos (by simpa using hw) (Ev.pos h3 jt))))))⟩
        · exact ⟨b2, Ev.bind ha (Ev.pos rfl (Ev.bind hb (Ev.pos rfl (Ev.val (pathWithin_val r.f1 p hd) (Ev.pos (by simpa using hw) (Ev.neg h3 hb2))))))⟩
      · exact ⟨false, Ev.bind ha (Ev.pos rfl (Ev.bind hb (Ev.pos rfl (Ev.val (pathWithin_val r.f1 p hd) (Ev.neg (by simpa using hw) jt)))))⟩
theorem last_tot (l : List S40) (p : ByteArray) (fo : Bool) (hl : l.length ≤ 1000000) (hp : p.size ≤ 999999) (hr : ∀ r, r ∈ l → r.f1.size ≤ 140737488351232) : ∀ (d : Nat) (i : Int), i < l.length → -1 ≤ i → i + 1 ≤ d → ∃ j, Ev (fun k => ignore_Last.l0 k l p fo i) j ∧ j < l.length
  | 0, i, h1, h2, hd => ⟨-1, Ev.step (fun k => rfl) (Ev.neg (by omega) (Ev.now (-1))), by omega⟩
  | d + 1, i, h1, h2, hd => by
    by_cases hi : i ≥ 0
    · have hm := rd_mem hi h1
      obtain ⟨b, hH⟩ := has_tot (rd_T40 l i) p fo hp (hr _ hm)
      cases b with
      | true => exact ⟨i, Ev.step (fun k => rfl) (Ev.pos hi (Ev.pos hi (Ev.pos h1 (Ev.bind hH (Ev.pos rfl (Ev.now i)))))), h1⟩
      | false =>
        obtain ⟨j, hj, hjl⟩ := last_tot l p fo hl hp hr d (i - 1) (by omega) (by omega) (by omega)
        exact ⟨j, Ev.step (fun k => rfl) (Ev.pos hi (Ev.pos hi (Ev.pos h1 (Ev.bind hH (Ev.neg (by decide) (by rw [wrap_in (by omega) (by omega)]; exact hj)))))), hjl⟩
    · exact ⟨-1, Ev.step (fun k => rfl) (Ev.neg hi (Ev.now (-1))), by omega⟩
theorem says_tot (l : List S40) (p : ByteArray) (fo : Bool) (hl : l.length ≤ 1000000) (hp : p.size ≤ 999999) (hr : ∀ r, r ∈ l → r.f1.size ≤ 140737488351232) : ∃ b, Ev (fun k => ignore_Is.says k l p fo) b := by
  obtain ⟨j, hj, hjl⟩ := last_tot l p fo hl hp hr l.length ((l.length : Int) - 1) (by omega) (by omega) (by omega)
  rw [← wrap_in (i := (l.length : Int) - 1) (by omega) (by omega)] at hj
  have hj2 : Ev (fun k => ignore_Last.f k l p fo) j := hj
  unfold ignore_Is.says
  by_cases h : 0 ≤ j
  · exact ⟨_, Ev.bind hj2 (Ev.pos h (Ev.pos hjl (Ev.now _)))⟩
  · exact ⟨false, Ev.bind hj2 (Ev.neg h (Ev.now false))⟩
theorem scan_val (l : List S40) (sv : ByteArray → Bool) : ∀ (qs : List ByteArray), (∀ q, q ∈ qs → Ev (fun k => ignore_Is.says k l q true) (sv q)) → Ev (fun k => ignore_Is.scan k l qs) (qs.any sv)
  | [], _ => Ev.now false
  | q :: qs, h => by
    have h1 := h q List.mem_cons_self
    have ih := scan_val l sv qs (fun q' h' => h q' (List.mem_cons_of_mem _ h'))
    rw [List.any_cons]
    cases hs : sv q with
    | true => rw [hs] at h1; exact Ev.bind (f := fun k b => if b = true then some true else ignore_Is.scan k l qs) h1 (Ev.pos rfl (Ev.now true))
    | false => rw [hs] at h1; rw [Bool.false_or]; exact Ev.bind (f := fun k b => if b = true then some true else ignore_Is.scan k l qs) h1 (Ev.neg (by decide) ih)
theorem isIgnored_val (l : List S40) (p : ByteArray) (fo : Bool) (sv : ByteArray → Bool → Bool) (hsv : ∀ q fo, q.size ≤ 999999 → Ev (fun k => ignore_Is.says k l q fo) (sv q fo)) (hp : p.size ≤ 999999) :
    Ev (fun k => ignore_Is.f k l p fo) (pathOk p.data.toList && ((ignore_Is.dirs p p.size).any (fun q => sv q true) || sv p fo)) := by
  have hs : ∀ q, q ∈ ignore_Is.dirs p p.size → Ev (fun k => ignore_Is.says k l q true) (sv q true) := fun q hq => by
    obtain ⟨i, hi, rfl⟩ := dirs_mem hq
    exact hsv _ true (Nat.le_trans (size_extract_le _ _ _) hp)
  obtain ⟨K, hK⟩ := Ev.all (g := fun k q => ignore_Is.says k l q true) _ (fun q hq => ⟨_, hs q hq⟩)
  unfold ignore_Is.f
  have ha := is_val p
  have hsc := scan_val l (fun q => sv q true) _ hs
  refine Ev.posK ⟨K, fun k hk => ⟨by omega, hK k hk⟩⟩ ?_
  cases hb : pathOk p.data.toList with
  | false => rw [hb] at ha; exact Ev.bind ha (Ev.neg (by decide) (Ev.now false))
  | true =>
    rw [hb] at ha
    rw [Bool.true_and]
    cases hc : (ignore_Is.dirs p p.size).any (fun q => sv q true) with
    | true => rw [hc] at hsc; exact Ev.bind ha (Ev.pos rfl (Ev.bind hsc (Ev.pos rfl (Ev.now true))))
    | false => rw [hc] at hsc; rw [Bool.false_or]; exact Ev.bind ha (Ev.pos rfl (Ev.bind hsc (Ev.neg (by decide) (hsv p fo hp))))
/-- The folders over what lies in a folder: those over the folder, the folder, and others. -/
theorem dirs_below (p rest : ByteArray) : ∃ more, ignore_Is.dirs ((p ++ (⟨#[47]⟩ : ByteArray)) ++ rest) ((p ++ (⟨#[47]⟩ : ByteArray)) ++ rest).size = ignore_Is.dirs p p.size ++ p :: more := by
  have hq : ((p ++ (⟨#[47]⟩ : ByteArray)) ++ rest).size = p.size + 1 + rest.size := by rw [ByteArray.size_append, ByteArray.size_append]; rfl
  have hpre : ∀ i, i ≤ p.size → ((p ++ (⟨#[47]⟩ : ByteArray)) ++ rest).extract 0 i = p.extract 0 i := fun i hi => by
    apply byteArray_list
    rw [extract_list, extract_list]
    have e : ((p ++ (⟨#[47]⟩ : ByteArray)) ++ rest).data.toList = p.data.toList ++ 47 :: rest.data.toList := by simp
    rw [e, List.drop_zero, List.drop_zero, List.take_append_of_le_length (by rw [← size_list]; omega)]
  have hbt : ∀ i : Nat, i < p.size → bt ((p ++ (⟨#[47]⟩ : ByteArray)) ++ rest) (i : Int) = bt p (i : Int) := fun i hi => by
    have h1 := bt_extract ((p ++ (⟨#[47]⟩ : ByteArray)) ++ rest) p.size (i : Int) (by omega) (by omega) (by omega)
    rw [← h1, hpre p.size (Nat.le_refl _)]
    rw [bt_extract p p.size (i : Int) (by omega) (by omega) (by omega)]
  have hat : bt ((p ++ (⟨#[47]⟩ : ByteArray)) ++ rest) (p.size : Int) = 47 := by
    have hl : p.size < ((p ++ (⟨#[47]⟩ : ByteArray)) ++ rest).data.toList.length := by rw [← size_list]; omega
    rw [bt_list _ _ hl]
    have e : ((p ++ (⟨#[47]⟩ : ByteArray)) ++ rest).data.toList = p.data.toList ++ 47 :: rest.data.toList := by simp
    have : (((p ++ (⟨#[47]⟩ : ByteArray)) ++ rest).data.toList)[p.size] = 47 := by
      rw [List.getElem_of_eq e, List.getElem_append_right (by rw [← size_list]; omega)]
      simp
    rw [this]; rfl
  have h1 : ignore_Is.dirs ((p ++ (⟨#[47]⟩ : ByteArray)) ++ rest) p.size = ignore_Is.dirs p p.size := by
    unfold ignore_Is.dirs
    have : (List.range p.size).filter (fun (i : Nat) => decide (bt ((p ++ (⟨#[47]⟩ : ByteArray)) ++ rest) (i : Int) = 47)) = (List.range p.size).filter (fun (i : Nat) => decide (bt p (i : Int) = 47)) := List.filter_congr fun i hi => by rw [hbt i (List.mem_range.mp hi)]
    rw [this]
    exact List.map_congr_left fun i hi => hpre i (Nat.le_of_lt (List.mem_range.mp (List.mem_filter.mp hi).1))
  have h2 := ignore_Is.dirs_succ ((p ++ (⟨#[47]⟩ : ByteArray)) ++ rest) p.size
  rw [if_pos hat, h1, hpre p.size (Nat.le_refl _)] at h2
  have hex : p.extract 0 p.size = p := by
    apply byteArray_list
    rw [extract_list, List.drop_zero, List.take_of_length_le (by rw [← size_list]; omega)]
  rw [hex] at h2
  obtain ⟨more, hm⟩ := ignore_Is.dirs_pre ((p ++ (⟨#[47]⟩ : ByteArray)) ++ rest) (p.size + 1) rest.size
  rw [hq, ← hm, h2]
  exact ⟨more, by simp⟩
/-- **The pure statement of IgnoreBelow.** -/
theorem below_pure (l : List S40) (p rest : ByteArray) (fo : Bool) (hp : p.size ≤ 140737488351232) (hq : rest.size ≤ 140737488351232) (hr : ∀ r, r ∈ l → r.f1.size ≤ 140737488351232) : ∃ k, graftagelaw30_IgnoreBelow.f k l p rest fo = some true := by
  refine Ev.rounds (g := fun k => graftagelaw30_IgnoreBelow.f k l p rest fo) ?_
  have hsz : ((p ++ (⟨#[47]⟩ : ByteArray)) ++ rest).size = p.size + 1 + rest.size := by rw [ByteArray.size_append, ByteArray.size_append]; rfl
  have hsz1 : (p ++ (⟨#[47]⟩ : ByteArray)).size = p.size + 1 := by rw [ByteArray.size_append]; rfl
  obtain ⟨more, hdirs⟩ := dirs_below p rest
  unfold graftagelaw30_IgnoreBelow.f
  refine Ev.pos (by omega) (Ev.pos (by omega) ?_)
  generalize hQ : ((p ++ (⟨#[47]⟩ : ByteArray)) ++ rest) = q at hsz hdirs ⊢
  have e : ∀ b k, graftagelaw30_IgnoreBelow.j0 (k + 1) q b l p rest fo = if b = true then ((graftagelaw30_lives.f k).bind fun t236 => (some t236)) else ((ignore_Is.f k l q fo).bind fun t237 => (if t237 = true then ((ignore_Files.f k l (([(⟨q, 1, (⟨#[]⟩ : ByteArray)⟩ : S35)] : List (S35)))).bind fun t241 => (if (t241.length : Int) = 0 then ((graftagelaw30_lives.f k).bind fun t244 => (some t244)) else (some false))) else (some false))) := fun b k => by simp only [graftagelaw30_IgnoreBelow.j0]
  have jt : Ev (fun k => graftagelaw30_IgnoreBelow.j0 k q true l p rest fo) true := Ev.step (e true) (Ev.pos rfl (Ev.bind lives_ev (Ev.now true)))
  by_cases c1 : (l.length : Int) > 12
  · exact Ev.pos c1 jt
  by_cases c2 : (q.size : Int) > 200
  · exact Ev.neg c1 (Ev.pos c2 jt)
  refine Ev.neg c1 (Ev.neg c2 ?_)
  have hI := refIs_val q (by omega)
  cases hok : pathOk q.data.toList with
  | false => rw [hok] at hI; exact Ev.bind hI (Ev.neg (by decide) jt)
  | true =>
    rw [hok] at hI
    have htot : ∀ (x : ByteArray × Bool), ∃ b, x.1.size ≤ 999999 → Ev (fun k => ignore_Is.says k l x.1 x.2) b := fun x => by
      by_cases h : x.1.size ≤ 999999
      · obtain ⟨b, hb⟩ := says_tot l x.1 x.2 (by omega) h hr
        exact ⟨b, fun _ => hb⟩
      · exact ⟨true, fun h' => absurd h' h⟩
    obtain ⟨sv, hsv⟩ := Classical.axiomOfChoice htot
    have hsv2 : ∀ q fo, q.size ≤ 999999 → Ev (fun k => ignore_Is.says k l q fo) (sv (q, fo)) := fun q fo h => hsv (q, fo) h
    have hP := isIgnored_val l p true (fun q fo => sv (q, fo)) hsv2 (by omega)
    refine Ev.bind hI (Ev.pos rfl (Ev.bind hP ?_))
    cases hv : (pathOk p.data.toList && ((ignore_Is.dirs p p.size).any (fun q => sv (q, true)) || sv (p, true))) with
    | false => exact jt
    | true =>
      rw [Bool.and_eq_true] at hv
      have hany : (ignore_Is.dirs q q.size).any (fun q => sv (q, true)) = true := by
        rw [hdirs, List.any_append, List.any_cons]
        rcases Bool.or_eq_true_iff.mp hv.2 with h | h
        · rw [h]; simp
        · simp [h]
      have hQ1 : ∀ fo, Ev (fun k => ignore_Is.f k l q fo) true := fun fo => by
        have := isIgnored_val l q fo (fun q fo => sv (q, fo)) hsv2 (by omega)
        rw [hok, hany] at this
        exact this
      have hF : Ev (fun k => ignore_Files.f k l (([(⟨q, 1, (⟨#[]⟩ : ByteArray)⟩ : S35)] : List (S35)))) ([] : List S35) := by
        unfold ignore_Files.f
        exact Ev.step (fun k => rfl) (Ev.pos (show (0 : Int) < 1 by decide) (Ev.pos (show (0 : Int) ≤ 0 by decide) (Ev.pos (show (0 : Int) < 1 by decide) (Ev.bind (hQ1 false) (Ev.pos rfl (Ev.step (fun k => rfl) (Ev.neg (show ¬ wrap64 (0 + 1) < (1 : Int) by rw [wrap_in (by decide) (by decide)]; decide) (Ev.now _))))))))
      exact Ev.step (e _) (Ev.neg (by decide) (Ev.bind (hQ1 fo) (Ev.pos rfl (Ev.bind hF (Ev.pos rfl (Ev.bind lives_ev (Ev.now true)))))))
end Go.Proofs.YtabimfpjdcggaaaDoor.X
