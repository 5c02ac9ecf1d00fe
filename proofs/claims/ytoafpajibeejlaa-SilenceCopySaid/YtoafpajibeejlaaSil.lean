/- Rows of silences in memory; slices.Clone of matchers; separate. -/
import Derived.Test.YtoafpajibeejlaaCheck
import Derived.Maps.AppendAt
import Derived.Deep.AppendLies
import Derived.Laws.OwnMore
set_option linter.unusedVariables false
set_option linter.unusedSimpArgs false
namespace Go.Proofs.Ytoafpajibeejlaa
open Go.RowKit

/-- block b is a row of cells of element type t -/
def TyAt (w : World) (b : Nat) (t : TypeId) : Prop := ∃ cs fz, w.heap[b]? = some (.cells cs t fz)
theorem TyAt.set {w : World} {b : Nat} {t : TypeId} (h : TyAt w b t) (a : Addr) (v : Value) : TyAt (w.setCell a v) b t := by
  obtain ⟨cs, fz, h⟩ := h
  simp only [TyAt, World.setCell, Array.getElem?_modify, h]
  split
  · exact ⟨_, _, rfl⟩
  · exact ⟨_, _, rfl⟩
theorem TyAt.lt {w : World} {b : Nat} {t : TypeId} (h : TyAt w b t) : b < w.heap.size := by
  obtain ⟨cs, fz, h⟩ := h
  rcases Nat.lt_or_ge b w.heap.size with hlt | hge
  · exact hlt
  · rw [Array.getElem?_eq_none hge] at h; cases h
theorem TyAt.below {w w' : World} {b : Nat} {t : TypeId} (h : TyAt w b t) (hb : Below w.heap.size w w') : TyAt w' b t := by
  have := hb.block b h.lt
  obtain ⟨cs, fz, h⟩ := h
  exact ⟨cs, fz, this.trans h⟩
theorem TyAt.keep {w w' : World} {b : Nat} {t : TypeId} {base : Nat} {T : List TypeId} (h : TyAt w b t) (f : Fr base T w w') (ht : t ∉ T) : TyAt w' b t := by
  have hl := h.lt
  obtain ⟨cs, fz, h⟩ := h
  exact ⟨cs, fz, (f.block b hl (.inr ⟨cs, t, fz, h, ht⟩)).trans h⟩
theorem TyAt.alloc {w : World} {b : Nat} {t : TypeId} (h : TyAt w b t) (o : Obj) : TyAt (w.alloc o) b t := h.below (bel1 _ _)
theorem TyAt.drew {w : World} {b : Nat} {t : TypeId} (h : TyAt w b t) : TyAt w.drew b t := h
theorem TyAt.new (w : World) (cs : Array Value) (t : TypeId) (fz : Nat × Nat) : TyAt (w.alloc (.cells cs t fz)) w.heap.size t := ⟨cs, fz, heap_alloc_new w _⟩
theorem Fr.set {base : Nat} {T : List TypeId} {w0 w : World} (h : Fr base T w0 w) {a : Addr} {t : TypeId} (ht : TyAt w a.block t) (hT : t ∈ T) (hb : base ≤ a.block) (v : Value) : Fr base T w0 (w.setCell a v) := by
  refine h.trans ⟨rfl, rfl, rfl, by simp [World.setCell], fun k hk hc => Below.heap_setCell _ _ _ _ ?_⟩
  rintro rfl
  obtain ⟨cs, fz, ht⟩ := ht
  rcases hc with hc | ⟨cs', t', fz', hc, hn⟩
  · omega
  · rw [ht] at hc; cases hc; exact hn hT
theorem Fr.drew {base : Nat} {T : List TypeId} {w0 w : World} (h : Fr base T w0 w) : Fr base T w0 w.drew := ⟨h.os, h.tape, h.output, h.size, h.block⟩
theorem Fr.alloc {base : Nat} {T : List TypeId} {w0 w : World} (h : Fr base T w0 w) (o : Obj) : Fr base T w0 (w.alloc o) := h.trans (Fr.of_below (bel1 _ _))
theorem Fr.then_ {base : Nat} {T : List TypeId} {w0 w w' : World} (h : Fr base T w0 w) (k : Below w.heap.size w w') : Fr base T w0 w' := h.trans (Fr.of_below k)

theorem TyAt.newAt {w : World} {k : Nat} (cs : Array Value) (t : TypeId) (fz : Nat × Nat) (h : w.heap.size = k) : TyAt (w.alloc (.cells cs t fz)) k t := by subst h; exact TyAt.new _ _ _ _
theorem Fr.setAt {base : Nat} {T : List TypeId} {w0 w : World} (h : Fr base T w0 w) {b : Nat} {t : TypeId} (ht : TyAt w b t) (hT : t ∈ T) (hb : base ≤ b) (j : Nat) (v : Value) : Fr base T w0 (w.setCell ⟨b, j, none⟩ v) :=
  Fr.set h (a := ⟨b, j, none⟩) ht hT hb v
theorem fr_set9 {base : Nat} {T : List TypeId} {w : World} {b : Nat} {t : TypeId} (ht : TyAt w b t) (hT : t ∈ T) (hb : base ≤ b) (v0 v1 v2 v3 v4 v5 v6 v7 v8 : Value) : Fr base T w (((((((((w.setCell ⟨b, 0, none⟩ v0).setCell ⟨b, 1, none⟩ v1).setCell ⟨b, 2, none⟩ v2).setCell ⟨b, 3, none⟩ v3).setCell ⟨b, 4, none⟩ v4).setCell ⟨b, 5, none⟩ v5).setCell ⟨b, 6, none⟩ v6).setCell ⟨b, 7, none⟩ v7).setCell ⟨b, 8, none⟩ v8) := by
  have h0 := Fr.setAt (Fr.refl base T w) ht hT hb 0 v0
  have t0 := ht.set ⟨b, 0, none⟩ v0
  have h1 := Fr.setAt (h0) t0 hT hb 1 v1
  have t1 := t0.set ⟨b, 1, none⟩ v1
  have h2 := Fr.setAt (h1) t1 hT hb 2 v2
  have t2 := t1.set ⟨b, 2, none⟩ v2
  have h3 := Fr.setAt (h2) t2 hT hb 3 v3
  have t3 := t2.set ⟨b, 3, none⟩ v3
  have h4 := Fr.setAt (h3) t3 hT hb 4 v4
  have t4 := t3.set ⟨b, 4, none⟩ v4
  have h5 := Fr.setAt (h4) t4 hT hb 5 v5
  have t5 := t4.set ⟨b, 5, none⟩ v5
  have h6 := Fr.setAt (h5) t5 hT hb 6 v6
  have t6 := t5.set ⟨b, 6, none⟩ v6
  have h7 := Fr.setAt (h6) t6 hT hb 7 v7
  have t7 := t6.set ⟨b, 7, none⟩ v7
  have h8 := Fr.setAt (h7) t7 hT hb 8 v8
  have t8 := t7.set ⟨b, 8, none⟩ v8
  exact h8
theorem below_set9 {B : Nat} (w : World) {b : Nat} (hb : B ≤ b) (v0 v1 v2 v3 v4 v5 v6 v7 v8 : Value) : Below B w (((((((((w.setCell ⟨b, 0, none⟩ v0).setCell ⟨b, 1, none⟩ v1).setCell ⟨b, 2, none⟩ v2).setCell ⟨b, 3, none⟩ v3).setCell ⟨b, 4, none⟩ v4).setCell ⟨b, 5, none⟩ v5).setCell ⟨b, 6, none⟩ v6).setCell ⟨b, 7, none⟩ v7).setCell ⟨b, 8, none⟩ v8) :=
  (Below.setCell ((Below.setCell ((Below.setCell ((Below.setCell ((Below.setCell ((Below.setCell ((Below.setCell ((Below.setCell ((Below.setCell (Below.refl _ _) (p := ⟨b, 0, none⟩) hb _)) (p := ⟨b, 1, none⟩) hb _)) (p := ⟨b, 2, none⟩) hb _)) (p := ⟨b, 3, none⟩) hb _)) (p := ⟨b, 4, none⟩) hb _)) (p := ⟨b, 5, none⟩) hb _)) (p := ⟨b, 6, none⟩) hb _)) (p := ⟨b, 7, none⟩) hb _)) (p := ⟨b, 8, none⟩) hb _)
theorem ty_set9 {w : World} {b g : Nat} {t : TypeId} (ht : TyAt w g t) (v0 v1 v2 v3 v4 v5 v6 v7 v8 : Value) : TyAt (((((((((w.setCell ⟨b, 0, none⟩ v0).setCell ⟨b, 1, none⟩ v1).setCell ⟨b, 2, none⟩ v2).setCell ⟨b, 3, none⟩ v3).setCell ⟨b, 4, none⟩ v4).setCell ⟨b, 5, none⟩ v5).setCell ⟨b, 6, none⟩ v6).setCell ⟨b, 7, none⟩ v7).setCell ⟨b, 8, none⟩ v8) g t := by
  have t0 := ht.set ⟨b, 0, none⟩ v0
  have t1 := t0.set ⟨b, 1, none⟩ v1
  have t2 := t1.set ⟨b, 2, none⟩ v2
  have t3 := t2.set ⟨b, 3, none⟩ v3
  have t4 := t3.set ⟨b, 4, none⟩ v4
  have t5 := t4.set ⟨b, 5, none⟩ v5
  have t6 := t5.set ⟨b, 6, none⟩ v6
  have t7 := t6.set ⟨b, 7, none⟩ v7
  have t8 := t7.set ⟨b, 8, none⟩ v8
  exact t8

structure Sil where
  id : Int
  ms : List Mat
  ow : ByteArray
  se : ByteArray
  cl : Int
  fr : Int
  un : Int
  cp : Int
  hd : Int

def silCells (x : Sil × Value) : List Value :=
  [.int .i64 x.1.id, x.2, .string x.1.ow, .string x.1.se, .int .i64 x.1.cl, .int .i64 x.1.fr, .int .i64 x.1.un, .int .i64 x.1.cp, .int .i64 x.1.hd]
def rowCells (l : List (Sil × Value)) : List Value := l.flatMap silCells

/-- the strings fit, the matchers are few -/
def MsOk (ms : List Mat) : Prop := ms.length ≤ 1000 ∧ ∀ x ∈ ms, x.1.size ≤ maxLen ∧ x.2.2.size ≤ maxLen
/-- each silence's matchers lie in memory -/
def SilsOk (w : World) (base : Nat) (l : List (Sil × Value)) : Prop := ∀ x ∈ l, Mats w base x.2 x.1.ms ∧ MsOk x.1.ms

theorem SilsOk.keep {w w' : World} {base : Nat} {T : List TypeId} {l : List (Sil × Value)} (h : SilsOk w base l) (f : Fr base T w w') (ht : 27 ∉ T) : SilsOk w' base l :=
  fun x hx => ⟨(h x hx).1.keep f ht, (h x hx).2⟩
theorem SilsOk.below {w w' : World} {base : Nat} {l : List (Sil × Value)} (h : SilsOk w base l) (f : Below w.heap.size w w') : SilsOk w' base l :=
  fun x hx => ⟨(h x hx).1.below f, (h x hx).2⟩
theorem Mats.form {w : World} {base : Nat} {v : Value} {l : List Mat} (h : Mats w base v l) : ∃ A c, v = .slice A l.length c := by
  obtain ⟨_, A, c, hv, _⟩ := h
  exact ⟨A, c, hv⟩

/-- a slice of matchers is returned -/
def RetMats (w : World) (base : Nat) (ms : List Mat) (e : Ending) (w' : World) : Prop := ∃ A n c, e = .returned (.slice A n c) ∧ Mats w' base (.slice A n c) ms ∧ Below w.heap.size w w'

theorem matInfo : (Try.prog.info? 27).map (fun i => (i.zero, i.size, i.bytes)) = some (some (.agg #[.string ⟨#[]⟩, .int .i64 0, .string ⟨#[]⟩]), 3, 40) := by kernel_rfl

theorem matCells_one (ms : List Mat) : ∀ u ∈ ms.flatMap matCells, u.oneCell' = true := by
  intro u hu
  obtain ⟨x, _, hx⟩ := List.mem_flatMap.1 hu
  simp [matCells] at hx
  rcases hx with rfl | rfl | rfl <;> rfl
theorem Seq.news {w : World} {base t size n c : Nat} {ad : Addr} {xs : List Value} (h : Seq w base t size (.slice (some ad) n c) n xs) : ∀ j u, xs[j]? = some u → w.cell? (ad.add j) = some u := by
  intro j u hu
  obtain ⟨h1, A, c', hv, _, _, h2⟩ := h
  cases hv
  rcases Nat.eq_zero_or_pos n with h0 | h0
  · subst h0
    have hn : xs = [] := List.eq_nil_of_length_eq_zero (by simpa using h1)
    rw [hn] at hu; simp at hu
  · obtain ⟨b, off, hA, _, hx⟩ := h2 h0
    cases hA
    have := hx j u hu
    unfold Addr.add
    split
    · next e => subst e; exact this
    · exact this

theorem mats_of_own {w1 : World} {B m base' : Nat} {v : Value} {ms : List Mat} (h : w1.ownsRow B 27 3 v m ([] ++ ms.flatMap matCells)) (hm : m = ms.length) :
    ∃ A n c, v = .slice A n c ∧ Mats w1 base' (.slice A n c) ms := by
  rw [List.nil_append] at h
  subst hm
  have hs : Seq w1 base' 27 3 v ms.length (ms.flatMap matCells) := Seq.of_own h
  obtain ⟨_, A, c, hv, _⟩ := id hs
  exact ⟨A, ms.length, c, hv, by rw [← hv]; exact hs⟩

set_option maxHeartbeats 400000 in
theorem clone_any (A : Option Addr) (n c base : Nat) (ms : List Mat) (w : World) (h : Mats w base (.slice A n c) ms) (hn : n ≤ 1000) :
    Calls Try.prog 42 #[.slice A n c] w (RetMats w base ms) := by
  have hl := h.len.1
  obtain ⟨i0, hi, hz0, hz1, hz2⟩ := info_parts matInfo
  have hnil := fun (W : World) (A : Option Addr) (n c n' c' : Nat) => Lib.run_eql_slice_nil (P := Try.prog) W 22 27 A n c n' c' Try.underlying22
  have hbs : ∀ W : World, (Instr.buildSlice 22 0 #[]).run Try.prog W = .ok (.slice (some ⟨W.heap.size, 0, none⟩) 0 0) (W.alloc (.cells #[] 27)) := fun W => by kernel_rfl
  cases A with
  | none =>
    have H0 : Hid (ms = []) := by
      obtain ⟨h1, A, c', hv, _, _, h2⟩ := h
      cases hv
      rcases Nat.eq_zero_or_pos ms.length with h0 | h0
      · exact List.eq_nil_of_length_eq_zero h0
      · obtain ⟨b, off, hA, _⟩ := h2 h0; cases hA
    clear h hl
    go_enter Try.func42, Try.ntmps42
    go_wp2
    go_ret
    exact ⟨none, 0, 0, rfl, by rw [H0.out]; exact Seq.nil _ _ _ _, Below.refl _ _⟩
  | some ad =>
    have HM := Lib.hid h
    have HL := Lib.hid hl
    have HO : Hid ((w.alloc (.cells #[] 27)).ownsRow w.heap.size 27 3 (.slice (some ⟨w.heap.size, 0, none⟩) 0 0) 0 []) := World.ownsRow_made w _ 0 (Nat.le_refl _) (by unfold maxLen; omega) (by simp)
    have HC1 : Hid ((ms.flatMap matCells).length = n * 3) := by rw [Hid, flat_len matCells 3 (fun _ => rfl), hl]
    have HC2 : Hid (∀ j u, (ms.flatMap matCells)[j]? = some u → (w.alloc (.cells #[] 27)).cell? (ad.add j) = some u) := by
      have h' := h.below (bel1 w (.cells #[] 27))
      unfold Mats at h'; rw [← hl] at h'; exact h'.news
    clear h hl
    go_enter Try.func42, Try.ntmps42
    go_wp2_with (at_builtin; refine wpList_append_own_at _ rfl _ _ 22 rfl w.heap.size 27 i0 (.agg #[.string ⟨#[]⟩, .int .i64 0, .string ⟨#[]⟩]) 3 40 Try.underlying22 hi hz0 hz1 hz2 rfl (by decide) (.slice (some ⟨w.heap.size, 0, none⟩) 0 0) 0 [] rfl HO.out ad n c (ms.flatMap matCells) rfl HC1.out HC2.out (matCells_one ms) (by simp only [maxLen]; omega) (by omega) (by simp) ?_; intro v' w1 hown1 hg1 _ hat1)
    go_ret
    obtain ⟨A, k, c', hv, hm⟩ := mats_of_own (base' := base) hown1 (by rw [← HL.out]; omega)
    exact ⟨A, k, c', congrArg Ending.returned hv, hm, (bel1 _ _).trans (Below.grown (Below.refl _ _) hg1 (by simp) (by simp [Value.ownBlock]))⟩
end Go.Proofs.Ytoafpajibeejlaa
