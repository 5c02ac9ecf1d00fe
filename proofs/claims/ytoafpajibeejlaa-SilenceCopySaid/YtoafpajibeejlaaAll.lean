/- silences, All: all silences of a book, in new memory. -/
import Derived.Test.YtoafpajibeejlaaSep
set_option linter.unusedVariables false
set_option linter.unusedSimpArgs false
namespace Go.Proofs.Ytoafpajibeejlaa
open Go.RowKit

theorem own_ty {w : World} {B t size n : Nat} {v : Value} {xs : List Value} (h : w.ownsRow B t size v n xs) : ∀ g, v.ownBlock = some g → B ≤ g ∧ TyAt w g t := by
  intro g hg
  rcases h.2 with ⟨rfl, _⟩ | ⟨g', cap, cur, rfl, hb, hh, _⟩
  · simp [Value.ownBlock] at hg
  · simp [Value.ownBlock] at hg; subst hg; exact ⟨hb, cur, _, hh⟩
theorem Fr.grown {base : Nat} {T : List TypeId} {w0 w w' : World} {row : Option Nat} {t : TypeId} (h : Fr base T w0 w) (hg : w.grownBy w' row) (hr : ∀ g, row = some g → base ≤ g ∧ TyAt w g t) (hT : t ∈ T) : Fr base T w0 w' := by
  refine h.trans ⟨hg.os, hg.tape, hg.output, hg.size, fun k hk hc => hg.block k hk ?_⟩
  intro e
  obtain ⟨hb, cs, fz, ht⟩ := hr k e.symm
  rcases hc with hc | ⟨cs', t', fz', hc, hn⟩
  · omega
  · rw [ht] at hc; cases hc; exact hn hT

/-- a row of silences (or entries) of element type t, in memory -/
def Sils (w : World) (base : Nat) (t : TypeId) (v : Value) (l : List (Sil × Value)) : Prop := Seq w base t 9 v l.length (rowCells l) ∧ SilsOk w base l

theorem Sils.len {w : World} {base t : Nat} {A : Option Addr} {n c : Nat} {l : List (Sil × Value)} (h : Sils w base t (.slice A n c) l) : n = l.length ∧ n ≤ 9223372036854775807 := by
  obtain ⟨⟨_, A', c', hv, h1, h2, _⟩, _⟩ := h
  cases hv
  unfold maxLen at h2
  exact ⟨rfl, by omega⟩
theorem Sils.below {w w' : World} {base t : Nat} {v : Value} {l : List (Sil × Value)} (h : Sils w base t v l) (f : Below w.heap.size w w') : Sils w' base t v l := ⟨h.1.below f, h.2.below f⟩
theorem Sils.keep {w w' : World} {base t : Nat} {T : List TypeId} {v : Value} {l : List (Sil × Value)} (h : Sils w base t v l) (f : Fr base T w w') (ht : t ∉ T) (hm : 27 ∉ T) : Sils w' base t v l := ⟨h.1.keep f ht, h.2.keep f hm⟩

/-- the nine cells of element k -/
def At9 (w : World) (b off : Nat) (s : Sil) (mv : Value) : Prop :=
  w.cell? ⟨b, off, none⟩ = some (.int .i64 s.id) ∧ w.cell? ⟨b, off + 1, none⟩ = some mv ∧ w.cell? ⟨b, off + 2, none⟩ = some (.string s.ow) ∧ w.cell? ⟨b, off + 3, none⟩ = some (.string s.se) ∧
  w.cell? ⟨b, off + 4, none⟩ = some (.int .i64 s.cl) ∧ w.cell? ⟨b, off + 5, none⟩ = some (.int .i64 s.fr) ∧ w.cell? ⟨b, off + 6, none⟩ = some (.int .i64 s.un) ∧ w.cell? ⟨b, off + 7, none⟩ = some (.int .i64 s.cp) ∧ w.cell? ⟨b, off + 8, none⟩ = some (.int .i64 s.hd)

theorem row_at {l : List (Sil × Value)} {w : World} {b off k : Nat} {x : Sil × Value} (hk : l[k]? = some x) (h : ∀ j u, (rowCells l)[j]? = some u → w.cell? ⟨b, off + j, none⟩ = some u) : At9 w b (off + k * 9) x.1 x.2 := by
  have g : ∀ j u, j < 9 → (silCells x)[j]? = some u → w.cell? ⟨b, off + k * 9 + j, none⟩ = some u := by
    intro j u hj hu
    have e := flat_get silCells 9 (fun _ => rfl) l k j x hk hj
    have := h (k * 9 + j) u (e.trans hu)
    rwa [← Nat.add_assoc] at this
  exact ⟨g 0 _ (by omega) rfl, g 1 _ (by omega) rfl, g 2 _ (by omega) rfl, g 3 _ (by omega) rfl, g 4 _ (by omega) rfl, g 5 _ (by omega) rfl, g 6 _ (by omega) rfl, g 7 _ (by omega) rfl, g 8 _ (by omega) rfl⟩
theorem Sils.at_ {w : World} {base t : Nat} {A : Option Addr} {n c : Nat} {l : List (Sil × Value)} (h : Sils w base t (.slice A n c) l) (k : Nat) (x : Sil × Value) (hk : l[k]? = some x) :
    ∃ b off, A = some ⟨b, off, none⟩ ∧ b < w.heap.size ∧ At9 w b (off + k * 9) x.1 x.2 ∧ Mats w base x.2 x.1.ms ∧ MsOk x.1.ms := by
  obtain ⟨⟨_, A', c', hv, _, _, h2⟩, hok⟩ := h
  cases hv
  have hlt : k < l.length := (List.getElem?_eq_some_iff.1 hk).1
  obtain ⟨b, off, rfl, hf, hx⟩ := h2 (by omega)
  exact ⟨b, off, rfl, hf.1, row_at hk hx, (hok x (List.mem_of_getElem? hk)).1, (hok x (List.mem_of_getElem? hk)).2⟩

theorem rowCells_len (l : List (Sil × Value)) : (rowCells l).length = l.length * 9 := flat_len silCells 9 (fun _ => rfl) l
theorem rowCells_snoc (l : List (Sil × Value)) (x : Sil × Value) : rowCells (l ++ [x]) = rowCells l ++ silCells x := by simp [rowCells]

/-- a slice of silences in new memory is returned -/
def RetSils (w : World) (base : Nat) (sl : List Sil) (e : Ending) (w' : World) : Prop :=
  ∃ A n c l, e = .returned (.slice A n c) ∧ l.map Prod.fst = sl ∧ w'.ownsRow w.heap.size 24 9 (.slice A n c) l.length (rowCells l) ∧ SilsOk w' base l ∧ Below w.heap.size w w'

theorem silInfo : (Try.prog.info? 24).map (fun i => (i.zero, i.size, i.bytes)) = some (some (.agg #[.int .i64 0, .slice none 0 0, .string ⟨#[]⟩, .string ⟨#[]⟩, .int .i64 0, .int .i64 0, .int .i64 0, .int .i64 0, .int .i64 0]), 9, 104) := by kernel_rfl

/-- what the loop of silences knows -/
def SlRel (w : World) (n base : Nat) (l : List (Sil × Value)) (v i : Value) (wr : World) : Prop :=
  ∃ (k : Nat) (l' : List (Sil × Value)), k ≤ n ∧ i = .int .i64 k ∧ l'.length = k ∧ l'.map Prod.fst = (l.map Prod.fst).take k ∧ wr.ownsRow w.heap.size 24 9 v k (rowCells l') ∧ SilsOk wr base l' ∧ Below w.heap.size w wr

theorem cells9 (w : World) (t : TypeId) (v0 v1 v2 v3 v4 v5 v6 v7 v8 : Value) : ∀ j u, [v0, v1, v2, v3, v4, v5, v6, v7, v8][j]? = some u → (w.alloc (.cells #[v0, v1, v2, v3, v4, v5, v6, v7, v8] t)).cell? ((⟨w.heap.size, 0, none⟩ : Addr).add j) = some u := by
  intro j u hj
  match j, hj with
  | 0, hj => simp at hj; subst hj; simp [Addr.add]
  | 1, hj => simp at hj; subst hj; simp [Addr.add]
  | 2, hj => simp at hj; subst hj; simp [Addr.add]
  | 3, hj => simp at hj; subst hj; simp [Addr.add]
  | 4, hj => simp at hj; subst hj; simp [Addr.add]
  | 5, hj => simp at hj; subst hj; simp [Addr.add]
  | 6, hj => simp at hj; subst hj; simp [Addr.add]
  | 7, hj => simp at hj; subst hj; simp [Addr.add]
  | 8, hj => simp at hj; subst hj; simp [Addr.add]
  | j + 9, hj => simp at hj
theorem silCells_one (s : Sil) (A : Option Addr) (n c : Nat) : ∀ u ∈ silCells (s, .slice A n c), u.oneCell' = true := by
  intro u hu
  simp [silCells] at hu
  rcases hu with rfl | rfl | rfl | rfl | rfl | rfl | rfl | rfl | rfl <;> rfl

theorem own_below {w w' : World} {B t size n : Nat} {v : Value} {xs : List Value} (h : w.ownsRow B t size v n xs) (hb : Below w.heap.size w w') : w'.ownsRow B t size v n xs :=
  h.kept (row := none) ⟨hb.os, hb.tape, hb.output, hb.size, fun i hi _ => hb.block i hi⟩ (by cases hv : v.ownBlock <;> simp)

/-- one silence more in a row that grows: what was collected stays readable -/
theorem grow_next {w wr w2 w3 : World} {o1 o2 : Obj} {base k t : Nat} {l' : List (Sil × Value)} {s : Sil} {v mv : Value} (hbase : base ≤ w.heap.size) (hlen : l'.length = k)
    (hown : wr.ownsRow w.heap.size t 9 v k (rowCells l')) (hok : SilsOk wr base l') (hbw : Below w.heap.size w wr) (hb2 : Below (wr.alloc o1).heap.size (wr.alloc o1) w2) (hm2 : Mats w2 base mv s.ms) (hms : MsOk s.ms)
    (hg3 : (w2.alloc o2).grownBy w3 v.ownBlock) (ht : t ≠ 27) :
    SilsOk w3 base (l' ++ [(s, mv)]) ∧ Below w.heap.size w w3 := by
  have hown2 : (w2.alloc o2).ownsRow w.heap.size t 9 v k (rowCells l') := (own_below (hown.alloc _) hb2).alloc _
  have hty := own_ty hown2
  have f : Fr base [t] (w2.alloc o2) w3 := Fr.grown (Fr.refl _ _ _) hg3 (fun g hg => ⟨Nat.le_trans hbase (hty g hg).1, (hty g hg).2⟩) (by simp)
  have hn : 27 ∉ [t] := by simp; exact fun h => ht h.symm
  have hz : w.heap.size ≤ w2.heap.size := by have := hb2.size; have := hbw.size; simp at *; omega
  refine ⟨fun x hx => ?_, ?_⟩
  · rcases List.mem_append.1 hx with hx | hx
    · exact (((hok.below (bel1 _ _)).below hb2).below (bel1 _ _)).keep f hn x hx
    · simp at hx; subst hx
      exact ⟨(hm2.below (bel1 _ _)).keep f hn, hms⟩
  · have h2 : Below w.heap.size w w2 := (hbw.alloc hbw.size _).trans (hb2.mono (by have := hbw.size; simp; omega))
    exact (h2.alloc hz _).grown hg3 (by simp; omega) (fun g hg => (hty g hg).1)
theorem take_next {l : List (Sil × Value)} {k : Nat} {s : Sil} {mv mv' : Value} {l' : List (Sil × Value)} (hk : l[k]? = some (s, mv)) (h : l'.map Prod.fst = (l.map Prod.fst).take k) : (l' ++ [(s, mv')]).map Prod.fst = (l.map Prod.fst).take (k + 1) := by
  rw [List.map_append, h, List.take_add_one]
  simp [hk]

set_option maxHeartbeats 1000000 in
theorem silences_any (A : Option Addr) (n c base : Nat) (l : List (Sil × Value)) (w : World) (h : Sils w base 82 (.slice A n c) l) (hn : n ≤ 100000) (hbase : base ≤ w.heap.size) :
    Calls Try.prog 43 #[.slice A n c] w (RetSils w base (l.map Prod.fst)) := by
  have hl := h.len.1
  obtain ⟨i0, hi, hz0, hz1, hz2⟩ := info_parts silInfo
  have HS := Lib.hid h
  have HL := Lib.hid hl
  clear h hl
  go_enter Try.func43, Try.ntmps43
  go_wp2_with (at_make; refine wpList_make_own _ rfl _ _ 50 rfl w.heap.size 24 i0 _ 9 Try.underlying50 hi hz0 hz1 _ _ _ n rfl rfl (by omega) (by rw [hz2]; omega) (by unfold maxLen; omega) (Nat.le_refl _) ?_; intro w0 hown0 hgrow0)
  go_loopw [3, 11] (fun v i wr => SlRel w n base l v i wr) (fun _ i _ => n - (intOf i).toNat)
  case atStart => exact ⟨0, [], Nat.zero_le _, rfl, rfl, rfl, hown0, fun x hx => by simp at hx, (Below.refl _ _).grown hgrow0 (Nat.le_refl _) (fun k h => by cases h)⟩
  case round =>
    obtain ⟨k, l', hk, rfl, hlen, hmap, hown, hok, hbw⟩ := hrel
    clear hown0 hgrow0
    have hsz := hbw.size
    by_cases hlt : k < n
    · obtain ⟨x, hx⟩ : ∃ x, l[k]? = some x := ⟨l[k]'(by rw [← HL.out]; exact hlt), List.getElem?_eq_getElem _⟩
      obtain ⟨b, off, rfl, hb, ⟨c0, c1, c2, c3, c4, c5, c6, c7, c8⟩, hmx, hmo⟩ := (HS.out.below hbw).at_ k x hx
      obtain ⟨s, mv⟩ := x
      obtain ⟨A1, cp1, hmv⟩ := hmx.form
      simp only at hmv
      subst hmv
      have hn1 := hmo.1
      have HX := Lib.hid hx
      have HM := Lib.hid hmx
      have HO := Lib.hid hmo
      have HR : Hid (l'.length = k ∧ l'.map Prod.fst = (l.map Prod.fst).take k ∧ wr.ownsRow w.heap.size 24 9 u3 k (rowCells l') ∧ SilsOk wr base l' ∧ Below w.heap.size w wr) := ⟨hlen, hmap, hown, hok, hbw⟩
      clear hx hmx hmo hlen hmap hown hok hbw
      simp only at c0 c1 c2 c3 c4 c5 c6 c7 c8 hn1
      obtain ⟨id, ms, ow, se, cl, fr, un, cp, hd⟩ := s
      simp only at c0 c1 c2 c3 c4 c5 c6 c7 c8 hn1
      go_wp2_with (first | (go_at_call 59; refine (separate_any _ _ _ _ _ _ _ _ _ _ _ base ms _ (by exact HM.out.below (bel1 _ _)) hn1 (by simp; omega)).mono ?_; rintro e w2 ⟨A2, n2, k2, rfl, hm2, hb2⟩; have hz2' := hb2.size; have HB2 := Lib.hid hb2; have HM2 := Lib.hid hm2; clear hb2 hm2) | (at_builtin; refine wpList_append_own_at _ rfl _ _ 50 rfl w.heap.size 24 i0 _ 9 104 Try.underlying50 hi hz0 hz1 hz2 rfl (by decide) _ k (rowCells l') rfl (by exact (own_below (HR.out.2.2.1.alloc _) HB2.out).alloc _) ⟨w2.heap.size, 0, none⟩ 1 1 (silCells (⟨id, ms, ow, se, cl, fr, un, cp, hd⟩, .slice A2 n2 k2)) rfl rfl (cells9 _ _ _ _ _ _ _ _ _ _ _) (silCells_one _ _ _ _) (by simp only [maxLen]; omega) (by omega) (by simp at hz2'; simp; omega) ?_; intro v' w3 hown3 hg3 _ hat3))
      have HF : Hid (SilsOk w3 base (l' ++ [(⟨id, ms, ow, se, cl, fr, un, cp, hd⟩, .slice A2 n2 k2)]) ∧ Below w.heap.size w w3) := grow_next hbase HR.out.1 HR.out.2.2.1 HR.out.2.2.2.1 HR.out.2.2.2.2 HB2.out HM2.out HO.out hg3 (by decide)
      have HOW : Hid (w3.ownsRow w.heap.size 24 9 v' (k + 1) (rowCells (l' ++ [(⟨id, ms, ow, se, cl, fr, un, cp, hd⟩, .slice A2 n2 k2)]))) := by rw [Hid, rowCells_snoc]; exact hown3
      clear hown3 hg3 hat3
      go_roundw
      case rel => exact ⟨k + 1, _, by omega, by go_num, by simp [HR.out.1], take_next HX.out HR.out.2.1, HOW.out, HF.out.1, HF.out.2⟩
      case measure => simp [intOf]; omega
    · obtain ⟨A2, n2, c2, hv2⟩ : ∃ A n c, u3 = .slice A n c := by
        rcases hown.2 with ⟨rfl, _⟩ | ⟨g, cap, cur, rfl, _⟩
        · exact ⟨_, _, _, rfl⟩
        · exact ⟨_, _, _, rfl⟩
      have HV := Lib.hid hv2
      clear hv2
      go_wp2
      go_ret
      refine ⟨A2, n2, c2, l', congrArg Ending.returned HV.out, ?_, by rw [← HV.out, hlen]; exact hown, hok, hbw⟩
      rw [hmap, List.take_of_length_le (by rw [List.length_map, ← HL.out]; omega)]

/-- a book: a block of one cell that holds the slice of its entries -/
def BookAt (w : World) (base p : Nat) (l : List (Sil × Value)) : Prop :=
  base ≤ p ∧ ∃ sv, w.heap[p]? = some (.cells #[sv] 77 (0, 0)) ∧ w.ownsRow base 82 9 sv l.length (rowCells l) ∧ SilsOk w base l

theorem own_form {w : World} {B t size n : Nat} {v : Value} {xs : List Value} (h : w.ownsRow B t size v n xs) : ∃ A c, v = .slice A n c := by
  rcases h.2 with ⟨rfl, rfl⟩ | ⟨g, cap, cur, rfl, _⟩
  · exact ⟨_, _, rfl⟩
  · exact ⟨_, _, rfl⟩
theorem BookAt.form {w : World} {base p : Nat} {l : List (Sil × Value)} (h : BookAt w base p l) :
    ∃ A c, w.cell? ⟨p, 0, none⟩ = some (.slice A l.length c) ∧ w.frozen? ⟨p, 0, none⟩ = false ∧ p < w.heap.size ∧ w.ownsRow base 82 9 (.slice A l.length c) l.length (rowCells l) ∧ Sils w base 82 (.slice A l.length c) l := by
  obtain ⟨hb, sv, hh, hown, hok⟩ := h
  obtain ⟨A, c, rfl⟩ := own_form hown
  refine ⟨A, c, by simp [World.cell?, hh], by simp [World.frozen?, hh], ?_, hown, Seq.of_own hown, hok⟩
  exact TyAt.lt ⟨_, _, hh⟩

set_option maxHeartbeats 400000 in
theorem all_any (p base : Nat) (l : List (Sil × Value)) (w : World) (h : BookAt w base p l) (hn : l.length ≤ 100000) (hbase : base ≤ w.heap.size) :
    Calls Try.prog 21 #[.pointer (some ⟨p, 0, none⟩)] w (RetSils w base (l.map Prod.fst)) := by
  obtain ⟨A, c, hc, hf, hp, hown, hs⟩ := h.form
  have HS := Lib.hid hs
  clear hs hown h
  go_enter Try.func21, Try.ntmps21
  go_wp2_with (go_at_call 43; refine (silences_any _ _ _ base l _ HS.out hn hbase).mono ?_; rintro e w2 ⟨A2, n2, c2, l2, rfl, hm2, ho2, hk2, hb2⟩; have HR : Hid (RetSils w base (l.map Prod.fst) (.returned (.slice A2 n2 c2)) w2) := ⟨A2, n2, c2, l2, rfl, hm2, ho2, hk2, hb2⟩; clear hm2 ho2 hk2 hb2)
  go_ret
  exact HR.out
end Go.Proofs.Ytoafpajibeejlaa
