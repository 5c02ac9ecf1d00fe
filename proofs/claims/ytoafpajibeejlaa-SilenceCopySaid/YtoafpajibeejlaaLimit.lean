/- SilenceLimit: the walk. -/
import Derived.Test.YtoafpajibeejlaaDoes
import Derived.Deep.RegionWith
set_option linter.unusedVariables false
set_option linter.unusedSimpArgs false
namespace Go.Proofs.Ytoafpajibeejlaa
open Go.RowKit

theorem mem_set_fit {sl : List Sil} {k : Nat} {y : Sil} (h : ∀ x ∈ sl, CapFit x) (hy : CapFit y) : ∀ x ∈ sl.set k y, CapFit x := by
  intro x hx
  rcases List.mem_or_eq_of_mem_set hx with h1 | h1
  · exact h x h1
  · subst h1; exact hy
theorem openM_fit {sl : List Sil} {s : Sil} {tick : Int} (h : ∀ x ∈ sl, CapFit x) (hs : s.cp ≤ 9223372036854775807) : (∀ x ∈ (openM sl s tick).2, CapFit x) ∧ (openM sl s tick).2.length ≤ sl.length + 1 := by
  unfold openM
  split
  · exact ⟨h, by simp⟩
  · split
    · exact ⟨h, by simp⟩
    · refine ⟨fun x hx => ?_, by simp⟩
      rcases List.mem_append.1 hx with h1 | h1
      · exact h x h1
      · simp at h1; subst h1; exact ⟨hs, by simp⟩
theorem extendM_fit {sl : List Sil} {id tick til : Int} {p : ByteArray} (h : ∀ x ∈ sl, CapFit x) : (∀ x ∈ (extendM sl id p tick til).2, CapFit x) ∧ (extendM sl id p tick til).2.length = sl.length := by
  unfold extendM
  split
  · exact ⟨h, rfl⟩
  · split
    · exact ⟨h, rfl⟩
    · next s hs =>
      split
      · exact ⟨h, rfl⟩
      · split
        · exact ⟨h, rfl⟩
        · exact ⟨mem_set_fit h (h s (List.mem_of_getElem? hs)), by simp⟩
theorem endM_fit {sl : List Sil} {id tick : Int} {p : ByteArray} (h : ∀ x ∈ sl, CapFit x) : (∀ x ∈ (endM sl id p tick).2, CapFit x) ∧ (endM sl id p tick).2.length = sl.length := by
  unfold endM
  split
  · exact ⟨h, rfl⟩
  · split
    · exact ⟨h, rfl⟩
    · next s hs =>
      split
      · exact ⟨h, rfl⟩
      · exact ⟨mem_set_fit h (h s (List.mem_of_getElem? hs)), by simp⟩
theorem hideM_fit {sl : List Sil} {ls : List Lab} {cls tick : Int} (h : ∀ x ∈ sl, CapFit x) : (∀ x ∈ (hideM sl ls cls tick).2, CapFit x) ∧ (hideM sl ls cls tick).2.length = sl.length := by
  unfold hideM
  split
  · exact ⟨h, rfl⟩
  · split
    · exact ⟨h, rfl⟩
    · next s hs =>
      have := h s (List.mem_of_getElem? hs)
      exact ⟨mem_set_fit h ⟨this.1, by have := this.2; simp; omega⟩, by simp⟩
theorem opM_fit {sl : List Sil} {kind : Int} {s : Sil} {oid tick til cls : Int} {ow : ByteArray} {ls : List Lab} (h : ∀ x ∈ sl, CapFit x) (hs : s.cp ≤ 9223372036854775807) : (∀ x ∈ opM sl kind s oid ow tick til cls ls, CapFit x) ∧ (opM sl kind s oid ow tick til cls ls).length ≤ sl.length + 1 := by
  unfold opM
  split
  · exact openM_fit h hs
  · split
    · exact ⟨(extendM_fit h).1, by rw [(extendM_fit h).2]; omega⟩
    · split
      · exact ⟨(endM_fit h).1, by rw [(endM_fit h).2]; omega⟩
      · exact ⟨(hideM_fit h).1, by rw [(hideM_fit h).2]; omega⟩

theorem noMats (w : World) (base : Nat) : Mats w base (.slice none 0 0) [] := Seq.nil _ _ _ _
theorem noLabs (w : World) (base : Nat) : Labs w base (.slice none 0 0) [] := Seq.nil _ _ _ _
theorem Two.below {w w' : World} {base p q : Nat} {sl : List Sil} (h : Two w base p q sl) (hb : Below w.heap.size w w') : Two w' base p q sl := by
  obtain ⟨l, l', h1, h2, h3, h4⟩ := h
  exact ⟨l, l', h1.below hb, h2.below hb, h3, h4⟩
theorem new_rbook (w : World) (base : Nat) (hb : base ≤ w.heap.size) : RBookAt (w.alloc (.cells #[.slice none 0 0] 60)) base w.heap.size [] :=
  ⟨hb, _, Blk.new _ _ _, World.ownsRow_nil _ _ _ _, fun x hx => by simp at hx⟩
theorem new_two (w : World) : Two ((w.alloc (.cells #[.slice none 0 0] 77)).alloc (.cells #[.slice none 0 0] 60)) w.heap.size w.heap.size (w.heap.size + 1) [] := by
  have h2 := new_rbook (w.alloc (.cells #[.slice none 0 0] 77)) w.heap.size (by simp)
  rw [show (w.alloc (.cells #[.slice none 0 0] 77)).heap.size = w.heap.size + 1 by simp] at h2
  exact ⟨[], [], (new_book w _ (Nat.le_refl _)).below (bel1 _ _), h2, rfl, rfl⟩
theorem silFit_ann (id cl fr un cp hd : Int) (ow : ByteArray) (ho : ow.size ≤ 16) (hu : un ≤ 9223372036854775807) : SilFit ⟨id, [], ow, ⟨#[]⟩, cl, fr, un, cp, hd⟩ :=
  ⟨⟨by simp, fun x hx => by simp at hx⟩, by show ow.size ≤ maxLen; unfold maxLen; omega, by show (⟨#[]⟩ : ByteArray).size ≤ maxLen; unfold maxLen; decide, hu⟩

/-- what the loop knows: both books hold the same few silences -/
def LimRel (w : World) (m : Int) (i : Value) (wr : World) : Prop :=
  ∃ (k : Nat) (sl : List Sil), 1 ≤ k ∧ (k : Int) ≤ m ∧ i = .int .i64 k ∧ sl.length < k ∧ (∀ x ∈ sl, CapFit x) ∧ Two wr w.heap.size w.heap.size (w.heap.size + 1) sl ∧ Fr w.heap.size TT w wr

set_option maxRecDepth 100000 in
set_option maxHeartbeats 4000000 in
theorem limit_walk (a0 a1 a2 : Int) (w : World) (l0 : -9223372036854775808 ≤ a0) (u0 : a0 ≤ 9223372036854775807) (l1 : -9223372036854775808 ≤ a1) (u1 : a1 ≤ 9223372036854775807) (l2 : -9223372036854775808 ≤ a2) (u2 : a2 ≤ 9223372036854775807) :
    Calls Try.prog 6 #[.int .i64 a0, .int .i64 a1, .int .i64 a2] w fun e w' => e = .returned (.bool true) ∧ Below w.heap.size w w' := by
  obtain ⟨b0, b1⟩ := around_bd a0 11 (by omega)
  obtain ⟨b2, b3⟩ := around_bd a1 70 (by omega)
  obtain ⟨b4, b5⟩ := around_bd a2 20 (by omega)
  have HT0 := Lib.hid (new_two w)
  go_enter Try.func6, Try.ntmps6
  go_wp2_with (first
    | (go_at_call 19; refine (new_any _).mono ?_; rintro e w1 ⟨rfl, rfl⟩)
    | (go_at_call 12; refine (around_any _ _ _ (by omega) (by omega) (by omega) (by omega)).mono ?_; rintro e w1 ⟨rfl, rfl⟩))
  go_loopw [10] (fun i wr => LimRel w (61 + around a0 11) i wr) (fun i _ => (62 + around a0 11 - intOf i).toNat)
  case atStart => exact ⟨1, [], by omega, by omega, rfl, by simp, fun x hx => by simp at hx, HT0.out, (Fr.of_below (bel1 _ _)).alloc _⟩
  case round =>
    obtain ⟨k, sl, hk1, hk2, rfl, hlen, hfit, htwo, hfr⟩ := hrel
    have hsz := hfr.size
    have HF := Lib.hid (And.intro hfit (And.intro htwo hfr))
    clear hfit htwo hfr HT0
    by_cases hlt : (k : Int) ≤ 60 + around a0 11
    · go_wp2_with (first
        | (go_at_call 12; refine (around_any _ _ _ (by omega) (by omega) (by omega) (by omega)).mono ?_; rintro e w1 ⟨rfl, rfl⟩))
      refine (does_any _ w.heap.size (w.heap.size + 1) w.heap.size sl ⟨_, [], _, _, _, _, _, _, _⟩ _ _ _ _ _ _ _ _ _ _ _ _ _ _ _ _ _ [] _ (by exact HF.out.2.1.below (bel1 _ _)) (by simp; omega) (by omega) (noMats _ _) (noLabs _ _) (silFit_ann _ _ _ _ _ _ _ (by decide) (by omega)) HF.out.1 (by omega) (by omega) (by omega) (by omega) (by omega)).mono ?_
      rintro e w2 ⟨rfl, ht2, hf2⟩
      have hfit2 := opM_fit (sl := sl) (kind := 0) (s := ⟨0, [], ⟨#[97, 110, 110]⟩, ⟨#[]⟩, 1, 5 + (k : Int) % 3, 10 + (k : Int) % 7, 1, 0⟩) (oid := 0) (tick := 5) (til := 0) (cls := 0) (ow := ⟨#[]⟩) (ls := []) HF.out.1 (by simp)
      generalize opM sl 0 ⟨0, [], ⟨#[97, 110, 110]⟩, ⟨#[]⟩, 1, 5 + (k : Int) % 3, 10 + (k : Int) % 7, 1, 0⟩ 0 ⟨#[]⟩ 5 0 0 [] = sl2 at *
      have hln2 : sl2.length ≤ k := by have := hfit2.2; omega
      have HF2 : Hid ((∀ x ∈ sl2, CapFit x) ∧ Two w2 w.heap.size w.heap.size (w.heap.size + 1) sl2 ∧ Fr w.heap.size TT w w2) := ⟨hfit2.1, ht2, (HF.out.2.2.alloc _).trans hf2⟩
      have hsz2 := HF2.out.2.2.size
      clear ht2 hf2 hfit2
      by_cases hmod : ((k : Int) % (2 + around a1 70) == 0) = true
      · go_wp2_with fail
        refine (does_any _ w.heap.size (w.heap.size + 1) w.heap.size sl2 ⟨_, [], _, _, _, _, _, _, _⟩ _ _ _ _ _ _ _ _ _ _ _ _ _ _ _ _ _ [] _ (by exact HF2.out.2.1) (by omega) (by omega) (noMats _ _) (noLabs _ _) (silFit_ann _ _ _ _ _ _ _ (by decide) (by omega)) HF2.out.1 (by omega) (by omega) (by omega) (by omega) (by omega)).mono ?_
        rintro e w3 ⟨rfl, ht3, hf3⟩
        have hfit3 := opM_fit (sl := sl2) (kind := 2) (s := ⟨0, [], ⟨#[]⟩, ⟨#[]⟩, 0, 0, 0, 0, 0⟩) (oid := (k : Int)) (tick := 5) (til := 0) (cls := 0) (ow := ⟨#[97, 110, 110]⟩) (ls := []) HF2.out.1 (by simp)
        have hlen3 : (opM sl2 2 ⟨0, [], ⟨#[]⟩, ⟨#[]⟩, 0, 0, 0, 0, 0⟩ (k : Int) ⟨#[97, 110, 110]⟩ 5 0 0 []).length = sl2.length := (endM_fit HF2.out.1).2
        generalize opM sl2 2 ⟨0, [], ⟨#[]⟩, ⟨#[]⟩, 0, 0, 0, 0, 0⟩ (k : Int) ⟨#[97, 110, 110]⟩ 5 0 0 [] = sl3 at *
        have hln3 : sl3.length ≤ k := by omega
        have HF3 : Hid ((∀ x ∈ sl3, CapFit x) ∧ Two w3 w.heap.size w.heap.size (w.heap.size + 1) sl3 ∧ Fr w.heap.size TT w w3) := ⟨hfit3.1, ht3, HF2.out.2.2.trans hf3⟩
        clear ht3 hf3 hfit3 hlen3
        go_wp2_with fail
        go_roundw
        case rel => exact ⟨k + 1, sl3, by omega, by omega, by go_num, by omega, HF3.out.1, HF3.out.2.1, HF3.out.2.2⟩
        case measure => simp [intOf]; omega
      · have hmod' : ((k : Int) % (2 + around a1 70) == 0) = false := by simpa using hmod
        clear hmod
        go_wp2_with fail
        go_roundw
        case rel => exact ⟨k + 1, sl2, by omega, by omega, by go_num, by omega, HF2.out.1, HF2.out.2.1, HF2.out.2.2⟩
        case measure => simp [intOf]; omega
    · go_wp2_with (first | (go_at_call 12; refine (around_any _ _ _ (by omega) (by omega) (by omega) (by omega)).mono ?_; rintro e w1 ⟨rfl, rfl⟩))
      have hs1 : IntKind.i64.wrap (5 + around a2 20 + 1) = 5 + around a2 20 + 1 := by rw [IntWalk.i64_in _ (by omega)]
      have hlnk : sl.length ≤ 100 := by omega
      go_region_with (first
        | (go_at_call 26
           refine (does_any _ w.heap.size (w.heap.size + 1) w.heap.size sl ⟨_, [], _, _, _, _, _, _, _⟩ _ _ _ _ _ _ _ _ _ _ _ _ _ _ _ _ _ [] _ (by exact HF.out.2.1) (by exact hsz) (by omega) (noMats _ _) (noLabs _ _) (silFit_ann _ _ _ _ _ _ _ (by decide) (by omega)) HF.out.1 (by omega) (by omega) (by omega) (by omega) (by omega)).mono ?_
           rintro e w5 ⟨rfl, ht5, hf5⟩
           have hfit5 := opM_fit (sl := sl) (kind := 0) (s := ⟨0, [], ⟨#[98, 111, 98]⟩, ⟨#[]⟩, 1, 5 + around a2 20, 5 + around a2 20 + 1, 1, 0⟩) (oid := 0) (tick := 5 + around a2 20) (til := 0) (cls := 0) (ow := ⟨#[]⟩) (ls := []) HF.out.1 (by simp)
           obtain ⟨l5, l5', hb5, hr5, m5, m5'⟩ := ht5
           obtain ⟨A5, c5, hblk5, hown5, hss5⟩ := hr5.form
           have e5 := hblk5.one
           have hp5 := hblk5.ty.lt
           have HX5 : Hid (BookAt w5 w.heap.size w.heap.size l5 ∧ Sils w5 w.heap.size 24 (.slice A5 l5'.length c5) l5' ∧ l5.map Prod.fst = l5'.map Prod.fst ∧ Fr w.heap.size TT w w5 ∧ l5.length ≤ 1000) := ⟨hb5, hss5, by rw [m5, m5'], HF.out.2.2.drew.trans hf5, by rw [mapLen m5]; have := hfit5.2; omega⟩
           have hz5 : w.heap.size ≤ w5.heap.size := HX5.out.2.2.2.1.size
           clear hb5 hr5 m5 m5' hblk5 hown5 hss5 hf5 hfit5)
        | (go_at_call 21
           refine (all_any w.heap.size w.heap.size l5 _ HX5.out.1 (by have := HX5.out.2.2.2.2; omega) hz5).mono ?_
           rintro e w6 ⟨A6, n6, c6, l6, rfl, hm6, ho6, hk6, hb6⟩
           obtain ⟨A6', c6', hv6⟩ := own_form ho6
           have hn6 : n6 = l6.length := by injection hv6
           subst hn6
           have e6 := bat hb6 hp5 e5
           have HX6 : Hid (Sils w6 w.heap.size 24 (.slice A6 l6.length c6) l6 ∧ Sils w6 w.heap.size 24 (.slice A5 l5'.length c5) l5' ∧ l6.map Prod.fst = l5'.map Prod.fst ∧ Fr w.heap.size TT w w6) := ⟨⟨Seq.of_own ho6, hk6⟩, HX5.out.2.1.below hb6, by rw [hm6, HX5.out.2.2.1], HX5.out.2.2.2.1.then_ hb6⟩
           clear hm6 ho6 hk6 hb6 hv6)
        | (go_at_call 27
           refine (same_any _ _ _ _ _ _ w.heap.size l6 l5' _ HX6.out.1 HX6.out.2.1 HX6.out.2.2.1).mono ?_
           rintro e w7 ⟨rfl, hb7⟩
           have HX7 : Hid (Fr w.heap.size TT w w7) := HX6.out.2.2.2.then_ hb7
           clear hb7)
        | (go_at_call 15
           refine (lives_true _).mono ?_
           rintro e w8 ⟨rfl, hb8⟩
           have HX8 : Hid (Fr w.heap.size TT w w8) := HX7.out.then_ hb8
           clear hb8))
      all_goals
        go_wp2
        go_ret
        exact ⟨rfl, HX8.out.to_below⟩
end Go.Proofs.Ytoafpajibeejlaa
