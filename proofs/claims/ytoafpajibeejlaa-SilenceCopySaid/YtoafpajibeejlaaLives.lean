/- lives: the documented examples. -/
import Derived.Test.YtoafpajibeejlaaRhide
set_option linter.unusedVariables false
set_option linter.unusedSimpArgs false
namespace Go.Proofs.Ytoafpajibeejlaa
open Go.RowKit

def zoneS : ByteArray := ⟨#[122, 111, 110, 101]⟩
def aS : ByteArray := ⟨#[97]⟩
def annS : ByteArray := ⟨#[97, 110, 110]⟩
def bobS : ByteArray := ⟨#[98, 111, 98]⟩
def noS : ByteArray := ⟨#[]⟩
def s0 : Sil := ⟨0, [(zoneS, 0, aS)], annS, noS, 2, 5, 10, 1, 0⟩
def s1 : Sil := ⟨1, [(zoneS, 0, aS)], annS, noS, 2, 5, 10, 1, 0⟩
def s2 : Sil := ⟨1, [(zoneS, 0, aS)], annS, noS, 2, 5, 10, 1, 1⟩
def s3 : Sil := ⟨0, [(zoneS, 0, aS)], annS, noS, 3, 5, 10, 1, 0⟩
theorem lv1 : openM [] s0 3 = ((1, 0), [s1]) := by kernel_rfl
theorem lv2 : openM [s1] s3 3 = ((0, 16), [s1]) := by kernel_rfl
theorem lv3 : hideM [s1] [(zoneS, aS)] 1 7 = ((1, true), [s2]) := by kernel_rfl
theorem lv4 : hideM [s2] [(zoneS, aS)] 1 7 = ((0, false), [s2]) := by kernel_rfl
theorem lv5 : extendM [s2] 1 bobS 7 12 = (16, [s2]) := by kernel_rfl

theorem bopen_eq (p base : Nat) (l : List (Sil × Value)) (s : Sil) (A : Option Addr) (n c : Nat) (tick : Int) (w : World) (sl : List Sil) (r1 r2 : Int) (sl' : List Sil) (h : BookAt w base p l) (hbase : base ≤ w.heap.size) (hm : Mats w base (.slice A n c) s.ms) (hs : SilFit s) (hl : l.length ≤ 10000) (he : l.map Prod.fst = sl) (hM : openM sl s tick = ((r1, r2), sl')) :
    Calls Try.prog 20 #[.pointer (some ⟨p, 0, none⟩), .agg #[.int .i64 s.id, .slice A n c, .string s.ow, .string s.se, .int .i64 s.cl, .int .i64 s.fr, .int .i64 s.un, .int .i64 s.cp, .int .i64 s.hd], .int .i64 tick] w (RetBook w base p (.tuple #[.int .i64 r1, .int .i64 r2]) sl') := by
  have := bopen_any p base l s A n c tick w h hbase hm hs hl
  rw [he, hM] at this
  exact this
theorem hide_eq (p base : Nat) (l : List (Sil × Value)) (kd ve st sn : Int) (ru to_ : ByteArray) (A' : Option Addr) (n' c' : Nat) (ls : List Lab) (cls tick : Int) (w : World) (sl : List Sil) (r1 : Int) (r2 : Bool) (sl' : List Sil) (h : BookAt w base p l) (hbase : base ≤ w.heap.size) (hl : l.length ≤ 10000) (hla : Labs w base (.slice A' n' c') ls) (hfit : ∀ s ∈ sl, CapFit s) (he : l.map Prod.fst = sl) (hM : hideM sl ls cls tick = ((r1, r2), sl')) :
    Calls Try.prog 24 #[.pointer (some ⟨p, 0, none⟩), .agg #[.int .i64 kd, .string ru, .int .i64 ve, .slice A' n' c', .int .i64 st, .int .i64 sn, .string to_], .int .i64 cls, .int .i64 tick] w (RetBook w base p (.tuple #[.int .i64 r1, .bool r2]) sl') := by
  have := hide_any p base l kd ve st sn ru to_ A' n' c' ls cls tick w h hbase hl hla (by rw [he]; exact hfit)
  rw [he, hM] at this
  exact this
theorem extend_eq (p base : Nat) (l : List (Sil × Value)) (id tick til : Int) (pe : ByteArray) (w : World) (sl : List Sil) (r : Int) (sl' : List Sil) (h : BookAt w base p l) (hl : l.length ≤ 10000) (h1 : -9223372036854775808 ≤ id)
    (ht : 0 ≤ tick) (ht2 : tick ≤ 4611686018427387904) (hu1 : -4611686018427387904 ≤ til) (hu2 : til ≤ 4611686018427387904) (he : l.map Prod.fst = sl) (hM : extendM sl id pe tick til = (r, sl')) :
    Calls Try.prog 23 #[.pointer (some ⟨p, 0, none⟩), .int .i64 id, .string pe, .int .i64 tick, .int .i64 til] w (RetBook w base p (.int .i64 r) sl') := by
  have := extend_any p base l id tick til pe w h hl h1 ht ht2 hu1 hu2
  rw [he, hM] at this
  exact this

theorem one_mat (w : World) (base : Nat) (v0 v2 : ByteArray) (k : Int) : Mats (w.alloc (.cells #[.string v0, .int .i64 k, .string v2] 27)) base (.slice (some ⟨w.heap.size, 0, none⟩) 1 1) [(v0, k, v2)] := by
  refine ⟨rfl, _, _, rfl, Nat.le_refl _, by unfold maxLen; simp, fun _ => ⟨w.heap.size, 0, rfl, ⟨by simp, .inr ⟨_, _, heap_alloc_new w _⟩⟩, ?_⟩⟩
  intro j u hj
  match j, hj with
  | 0, hj => simp [matCells] at hj; subst hj; simp
  | 1, hj => simp [matCells] at hj; subst hj; simp
  | 2, hj => simp [matCells] at hj; subst hj; simp
  | j + 3, hj => simp [matCells] at hj
theorem one_lab (w : World) (base : Nat) (v0 v1 : ByteArray) : Labs (w.alloc (.cells #[.string v0, .string v1] 38)) base (.slice (some ⟨w.heap.size, 0, none⟩) 1 1) [(v0, v1)] := by
  refine ⟨rfl, _, _, rfl, Nat.le_refl _, by unfold maxLen; simp, fun _ => ⟨w.heap.size, 0, rfl, ⟨by simp, .inr ⟨_, _, heap_alloc_new w _⟩⟩, ?_⟩⟩
  intro j u hj
  match j, hj with
  | 0, hj => simp [labCells] at hj; subst hj; simp
  | 1, hj => simp [labCells] at hj; subst hj; simp
  | j + 2, hj => simp [labCells] at hj
theorem mapLen {l : List (Sil × Value)} {sl : List Sil} (h : l.map Prod.fst = sl) : l.length = sl.length := by rw [← h, List.length_map]
theorem RetBook.len {w w' : World} {base p : Nat} {v : Value} {sl : List Sil} {e : Ending} (h : RetBook w base p v sl e w') : w.heap.size ≤ w'.heap.size := by
  obtain ⟨_, l, _, _, f⟩ := h
  exact f.size

/-- what lives knows between two calls -/
def LSt (w W : World) (l : List (Sil × Value)) (sl : List Sil) : Prop :=
  BookAt W w.heap.size w.heap.size l ∧ l.map Prod.fst = sl ∧ Mats W w.heap.size (.slice (some ⟨w.heap.size + 1, 0, none⟩) 1 1) [(zoneS, 0, aS)] ∧ Labs W w.heap.size (.slice (some ⟨w.heap.size + 1 + 1, 0, none⟩) 1 1) [(zoneS, aS)] ∧
  Blk W (w.heap.size + 1 + 1 + 1) 36 #[.int .i64 0, .string ⟨#[]⟩, .int .i64 0, .slice (some ⟨w.heap.size + 1 + 1, 0, none⟩) 1 1, .int .i64 0, .int .i64 0, .string ⟨#[]⟩] ∧ Fr w.heap.size [77, 82] w W
theorem LSt.next {w W W' : World} {l : List (Sil × Value)} {sl sl' : List Sil} {v : Value} {e : Ending} (h : LSt w W l sl) (r : RetBook W w.heap.size w.heap.size v sl' e W') : e = .returned v ∧ ∃ l', LSt w W' l' sl' := by
  obtain ⟨h1, h2, h3, h4, h5, h6⟩ := h
  obtain ⟨he, l', r1, r2, r3⟩ := r
  exact ⟨he, l', r1, r2, h3.keep r3 (by decide), h4.keep r3 (by decide), h5.keep r3 (by decide), h6.trans r3⟩
theorem LSt.start (w : World) : LSt w ((((w.alloc (.cells #[.slice none 0 0] 77)).alloc (.cells #[.string ⟨#[122, 111, 110, 101]⟩, .int .i64 0, .string ⟨#[97]⟩] 27)).alloc (.cells #[.string ⟨#[122, 111, 110, 101]⟩, .string ⟨#[97]⟩] 38)).alloc (.cells #[.int .i64 0, .string ⟨#[]⟩, .int .i64 0, .slice (some ⟨w.heap.size + 1 + 1, 0, none⟩) 1 1, .int .i64 0, .int .i64 0, .string ⟨#[]⟩] 36)) [] [] := by
  refine ⟨(((new_book w _ (Nat.le_refl _)).below (bel1 _ _)).below (bel1 _ _)).below (bel1 _ _), rfl, ?_, ?_, ?_, ?_⟩
  · have := one_mat (w.alloc (.cells #[.slice none 0 0] 77)) w.heap.size zoneS aS 0
    rw [show (w.alloc (.cells #[.slice none 0 0] 77)).heap.size = w.heap.size + 1 by simp] at this
    exact (this.below (bel1 _ _)).below (bel1 _ _)
  · have := one_lab ((w.alloc (.cells #[.slice none 0 0] 77)).alloc (.cells #[.string ⟨#[122, 111, 110, 101]⟩, .int .i64 0, .string ⟨#[97]⟩] 27)) w.heap.size zoneS aS
    rw [show ((w.alloc (.cells #[.slice none 0 0] 77)).alloc (.cells #[.string ⟨#[122, 111, 110, 101]⟩, .int .i64 0, .string ⟨#[97]⟩] 27)).heap.size = w.heap.size + 1 + 1 by simp] at this
    exact this.below (bel1 _ _)
  · have := Blk.new (((w.alloc (.cells #[.slice none 0 0] 77)).alloc (.cells #[.string ⟨#[122, 111, 110, 101]⟩, .int .i64 0, .string ⟨#[97]⟩] 27)).alloc (.cells #[.string ⟨#[122, 111, 110, 101]⟩, .string ⟨#[97]⟩] 38)) #[.int .i64 0, .string ⟨#[]⟩, .int .i64 0, .slice (some ⟨w.heap.size + 1 + 1, 0, none⟩) 1 1, .int .i64 0, .int .i64 0, .string ⟨#[]⟩] 36
    rw [show (((w.alloc (.cells #[.slice none 0 0] 77)).alloc (.cells #[.string ⟨#[122, 111, 110, 101]⟩, .int .i64 0, .string ⟨#[97]⟩] 27)).alloc (.cells #[.string ⟨#[122, 111, 110, 101]⟩, .string ⟨#[97]⟩] 38)).heap.size = w.heap.size + 1 + 1 + 1 by simp] at this
    exact this
  · exact (((Fr.of_below (bel1 _ _)).alloc _).alloc _).alloc _
theorem fit0 (cl : Int) (s : Sil) (hs : s = ⟨0, [(zoneS, 0, aS)], annS, noS, cl, 5, 10, 1, 0⟩) : SilFit s := by
  subst hs
  refine ⟨⟨by simp, ?_⟩, ?_, ?_, by simp⟩
  · intro x hx; simp at hx; subst hx; unfold maxLen zoneS aS; decide
  · show annS.size ≤ maxLen
    unfold maxLen annS; decide
  · show noS.size ≤ maxLen
    unfold maxLen noS; decide

set_option maxHeartbeats 2000000 in
theorem lives_true (w : World) : Calls Try.prog 15 #[] w fun e w' => e = .returned (.bool true) ∧ Below w.heap.size w w' := by
  have HS0 := Lib.hid (LSt.start w)
  go_enter Try.func15, Try.ntmps15
  go_wp2_with (first | (go_at_call 19; refine (new_any _).mono ?_; rintro e w1 ⟨rfl, rfl⟩))
  refine (bopen_eq w.heap.size w.heap.size [] s0 _ _ _ 3 _ [] 1 0 [s1] HS0.out.1 (by simp; omega) HS0.out.2.2.1 (fit0 2 s0 rfl) (by simp) rfl lv1).mono ?_
  rintro e w4 hr
  obtain ⟨rfl, l1, hs1⟩ := HS0.out.next hr
  have HS1 := Lib.hid hs1
  have hz1 := hs1.2.2.2.2.1.ty.lt
  obtain ⟨q0, q1, q2, q3, q4, q5, q6⟩ := hs1.2.2.2.2.1.seven
  clear hr hs1 HS0
  go_wp2_with fail
  refine (bopen_eq w.heap.size w.heap.size l1 s3 _ _ _ 3 _ [s1] 0 16 [s1] HS1.out.1 (by omega) HS1.out.2.2.1 (fit0 3 s3 rfl) (by rw [mapLen HS1.out.2.1]; simp) HS1.out.2.1 lv2).mono ?_
  rintro e w5 hr
  obtain ⟨rfl, l2, hs2⟩ := HS1.out.next hr
  have HS2 := Lib.hid hs2
  have hz2 := hs2.2.2.2.2.1.ty.lt
  clear q0 q1 q2 q3 q4 q5 q6
  obtain ⟨q0, q1, q2, q3, q4, q5, q6⟩ := hs2.2.2.2.2.1.seven
  clear hr hs2 HS1
  go_wp2_with fail
  refine (hide_eq w.heap.size w.heap.size l2 _ _ _ _ _ _ _ _ _ [(zoneS, aS)] 1 7 _ [s1] 1 true [s2] HS2.out.1 (by omega) (by rw [mapLen HS2.out.2.1]; simp) HS2.out.2.2.2.1 (by intro s hs; simp at hs; subst hs; unfold CapFit s1; decide) HS2.out.2.1 lv3).mono ?_
  rintro e w6 hr
  obtain ⟨rfl, l3, hs3⟩ := HS2.out.next hr
  have HS3 := Lib.hid hs3
  have hz3 := hs3.2.2.2.2.1.ty.lt
  clear q0 q1 q2 q3 q4 q5 q6
  obtain ⟨q0, q1, q2, q3, q4, q5, q6⟩ := hs3.2.2.2.2.1.seven
  clear hr hs3 HS2
  go_wp2_with fail
  refine (hide_eq w.heap.size w.heap.size l3 _ _ _ _ _ _ _ _ _ [(zoneS, aS)] 1 7 _ [s2] 0 false [s2] HS3.out.1 (by omega) (by rw [mapLen HS3.out.2.1]; simp) HS3.out.2.2.2.1 (by intro s hs; simp at hs; subst hs; unfold CapFit s2; decide) HS3.out.2.1 lv4).mono ?_
  rintro e w7 hr
  obtain ⟨rfl, l4, hs4⟩ := HS3.out.next hr
  have HS4 := Lib.hid hs4
  have hz4 := hs4.2.2.2.2.1.ty.lt
  clear q0 q1 q2 q3 q4 q5 q6 hr hs4 HS3
  go_wp2_with fail
  refine (extend_eq w.heap.size w.heap.size l4 1 7 12 bobS _ [s2] 16 [s2] HS4.out.1 (by rw [mapLen HS4.out.2.1]; simp) (by omega) (by omega) (by omega) (by omega) (by omega) HS4.out.2.1 lv5).mono ?_
  rintro e w8 hr
  obtain ⟨rfl, l5, hs5⟩ := HS4.out.next hr
  have HS5 := Lib.hid hs5
  have hz5 := hs5.2.2.2.2.1.ty.lt
  clear hr hs5 HS4
  go_wp2_with fail
  refine (all_any w.heap.size w.heap.size l5 _ HS5.out.1 (by rw [mapLen HS5.out.2.1]; simp) (by omega)).mono ?_
  rintro e w9 ⟨A9, n9, c9, l9, rfl, hm9, ho9, hk9, hb9⟩
  have hn9 : n9 = 1 := by
    obtain ⟨A, c, hv⟩ := own_form ho9
    injection hv with _ hv _
    rw [hv, mapLen hm9, HS5.out.2.1]; rfl
  subst hn9
  have HB9 := Lib.hid hb9
  clear hm9 ho9 hk9 hb9
  go_wp2_with fail
  go_ret
  exact ⟨rfl, Fr.to_below (HS5.out.2.2.2.2.2.then_ HB9.out)⟩
end Go.Proofs.Ytoafpajibeejlaa
