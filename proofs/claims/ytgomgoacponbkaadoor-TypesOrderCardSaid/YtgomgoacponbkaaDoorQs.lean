/- Rows of silences in memory; slices.Clone of matchers; separate. -/
import Derived.Test.YtgomgoacponbkaaDoorQv
import Derived.Maps.AppendAt
import Derived.Deep.AppendLies
import Derived.Laws.OwnMore
set_option linter.unusedVariables false
set_option linter.unusedSimpArgs false
namespace Go.Proofs.YtgomgoacponbkaaDoor
open Go.RowKit

/-- block b is a row of cells of element type t -/
def TyAt (w : World) (b : Nat) (t : TypeId) : Prop := ∃ cs fz, w.heap[b]? = some (.cells cs t fz)
theorem TyAt.set {w : World} {b : Nat} {t : TypeId} (h : TyAt w b t) (a : Addr) (v : Value) : TyAt (w.setCell a v) b t := by
  obtain ⟨cs, fz, h⟩ := h
  simp only [TyAt, World.setCell, Array.getElem?_modify, h]
  split
  · exact ⟨_, _, rfl⟩
  · exact ⟨_, _, rfl⟩
theorem TyAt.lt {w : World} {b : Nat} {t : TypeId} (h : TyAt w b t) : b < w.heap.size := by
  obtain ⟨cs, fz, h⟩ := h
  rcases Nat.lt_or_ge b w.heap.size with hlt | hge
  · exact hlt
  · rw [Array.getElem?_eq_none hge] at h; cases h
theorem TyAt.below {w w' : World} {b : Nat} {t : TypeId} (h : TyAt w b t) (hb : Below w.heap.size w w') : TyAt w' b t := by
  have := hb.block b h.lt
  obtain ⟨cs, fz, h⟩ := h
  exact ⟨cs, fz, this.trans h⟩
theorem TyAt.keep {w w' : World} {b : Nat} {t : TypeId} {base : Nat} {T : List TypeId} (h : TyAt w b t) (f : Fr base T w w') (ht : t ∉ T) : TyAt w' b t := by
  have hl := h.lt
  obtain ⟨cs, fz, h⟩ := h
  exact ⟨cs, fz, (f.block b hl (.inr ⟨cs, t, fz, h, ht⟩)).trans h⟩
theorem TyAt.alloc {w : World} {b : Nat} {t : TypeId} (h : TyAt w b t) (o : Obj) : TyAt (w.alloc o) b t := h.below (bel1 _ _)
theorem TyAt.drew {w : World} {b : Nat} {t : TypeId} (h : TyAt w b t) : TyAt w.drew b t := h
theorem TyAt.new (w : World) (cs : Array Value) (t : TypeId) (fz : Nat × Nat) : TyAt (w.alloc (.cells cs t fz)) w.heap.size t := ⟨cs, fz, heap_alloc_new w _⟩
theorem Fr.set {base : Nat} {T : List TypeId} {w0 w : World} (h : Fr base T w0 w) {a : Addr} {t : TypeId} (ht : TyAt w a.block t) (hT : t ∈ T) (hb : base ≤ a.block) (v : Value) : Fr base T w0 (w.setCell a v) := by
  refine h.trans ⟨rfl, rfl, rfl, by simp [World.setCell], fun k hk hc => Below.heap_setCell _ _ _ _ ?_⟩
  rintro rfl
  obtain ⟨cs, fz, ht⟩ := ht
  rcases hc with hc | ⟨cs', t', fz', hc, hn⟩
  · omega
  · rw [ht] at hc; cases hc; exact hn hT
theorem Fr.drew {base : Nat} {T : List TypeId} {w0 w : World} (h : Fr base T w0 w) : Fr base T w0 w.drew := ⟨h.os, h.tape, h.output, h.size, h.block⟩
theorem Fr.alloc {base : Nat} {T : List TypeId} {w0 w : World} (h : Fr base T w0 w) (o : Obj) : Fr base T w0 (w.alloc o) := h.trans (Fr.of_below (bel1 _ _))
theorem Fr.then_ {base : Nat} {T : List TypeId} {w0 w w' : World} (h : Fr base T w0 w) (k : Below w.heap.size w w') : Fr base T w0 w' := h.trans (Fr.of_below k)

theorem TyAt.newAt {w : World} {k : Nat} (cs : Array Value) (t : TypeId) (fz : Nat × Nat) (h : w.heap.size = k) : TyAt (w.alloc (.cells cs t fz)) k t := by subst h; exact TyAt.new _ _ _ _
theorem Fr.setAt {base : Nat} {T : List TypeId} {w0 w : World} (h : Fr base T w0 w) {b : Nat} {t : TypeId} (ht : TyAt w b t) (hT : t ∈ T) (hb : base ≤ b) (j : Nat) (v : Value) : Fr base T w0 (w.setCell ⟨b, j, none⟩ v) :=
  Fr.set h (a := ⟨b, j, none⟩) ht hT hb v
/-- the strings fit, the matchers are few -/
def MsOk (ms : List Mat) : Prop := ms.length ≤ 1000 ∧ ∀ x ∈ ms, x.1.size ≤ maxLen ∧ x.2.2.size ≤ maxLen
theorem Mats.form {w : World} {base : Nat} {v : Value} {l : List Mat} (h : Mats w base v l) : ∃ A c, v = .slice A l.length c := by
  obtain ⟨_, A, c, hv, _⟩ := h
  exact ⟨A, c, hv⟩

/-- a slice of matchers is returned -/
def RetMats (w : World) (base : Nat) (ms : List Mat) (e : Ending) (w' : World) : Prop := ∃ A n c, e = .returned (.slice A n c) ∧ Mats w' base (.slice A n c) ms ∧ Below w.heap.size w w'

theorem matInfo : (Tryd.prog.info? 84).map (fun i => (i.zero, i.size, i.bytes)) = some (some (.agg #[.string ⟨#[]⟩, .int .i64 0, .string ⟨#[]⟩]), 3, 40) := by kernel_rfl

theorem matCells_one (ms : List Mat) : ∀ u ∈ ms.flatMap matCells, u.oneCell' = true := by
  intro u hu
  obtain ⟨x, _, hx⟩ := List.mem_flatMap.1 hu
  simp [matCells] at hx
  rcases hx with rfl | rfl | rfl <;> rfl
theorem Seq.news {w : World} {base t size n c : Nat} {ad : Addr} {xs : List Value} (h : Seq w base t size (.slice (some ad) n c) n xs) : ∀ j u, xs[j]? = some u → w.cell? (ad.add j) = some u := by
  intro j u hu
  obtain ⟨h1, A, c', hv, _, _, h2⟩ := h
  cases hv
  rcases Nat.eq_zero_or_pos n with h0 | h0
  · subst h0
    have hn : xs = [] := List.eq_nil_of_length_eq_zero (by simpa using h1)
    rw [hn] at hu; simp at hu
  · obtain ⟨b, off, hA, _, hx⟩ := h2 h0
    cases hA
    have := hx j u hu
    unfold Addr.add
    split
    · next e => subst e; exact this
    · exact this

theorem mats_of_own {w1 : World} {B m base' : Nat} {v : Value} {ms : List Mat} (h : w1.ownsRow B 84 3 v m ([] ++ ms.flatMap matCells)) (hm : m = ms.length) :
    ∃ A n c, v = .slice A n c ∧ Mats w1 base' (.slice A n c) ms := by
  rw [List.nil_append] at h
  subst hm
  have hs : Seq w1 base' 84 3 v ms.length (ms.flatMap matCells) := Seq.of_own h
  obtain ⟨_, A, c, hv, _⟩ := id hs
  exact ⟨A, ms.length, c, hv, by rw [← hv]; exact hs⟩

theorem own_form {w : World} {B t size n : Nat} {v : Value} {xs : List Value} (h : w.ownsRow B t size v n xs) : ∃ A c, v = .slice A n c := by
  rcases h.2 with ⟨rfl, rfl⟩ | ⟨g, cap, cur, rfl, _⟩
  · exact ⟨_, _, rfl⟩
  · exact ⟨_, _, rfl⟩
theorem Fr.grown {base : Nat} {T : List TypeId} {w0 w w' : World} {row : Option Nat} {t : TypeId} (h : Fr base T w0 w) (hg : w.grownBy w' row) (hr : ∀ g, row = some g → base ≤ g ∧ TyAt w g t) (hT : t ∈ T) : Fr base T w0 w' := by
  refine h.trans ⟨hg.os, hg.tape, hg.output, hg.size, fun k hk hc => hg.block k hk ?_⟩
  intro e
  obtain ⟨hb, cs, fz, ht⟩ := hr k e.symm
  rcases hc with hc | ⟨cs', t', fz', hc, hn⟩
  · omega
  · rw [ht] at hc; cases hc; exact hn hT

theorem own_below {w w' : World} {B t size n : Nat} {v : Value} {xs : List Value} (h : w.ownsRow B t size v n xs) (hb : Below w.heap.size w w') : w'.ownsRow B t size v n xs :=
  h.kept (row := none) ⟨hb.os, hb.tape, hb.output, hb.size, fun i hi _ => hb.block i hi⟩ (by cases hv : v.ownBlock <;> simp)

theorem own_ty {w : World} {B t size n : Nat} {v : Value} {xs : List Value} (h : w.ownsRow B t size v n xs) : ∀ g, v.ownBlock = some g → B ≤ g ∧ TyAt w g t := by
  intro g hg
  rcases h.2 with ⟨rfl, _⟩ | ⟨g', cap, cur, rfl, hb, hh, _⟩
  · simp [Value.ownBlock] at hg
  · simp [Value.ownBlock] at hg; subst hg; exact ⟨hb, cur, _, hh⟩
/-- a row of the call's own has grown: blocks of other types are as they were -/
theorem grow_fr {W W' w9 : World} {base n t size : Nat} {v : Value} {xs : List Value} (hown : W.ownsRow base t size v n xs) (hb : Below W.heap.size W W') (hg : W'.grownBy w9 v.ownBlock) : Fr base [t] W w9 :=
  Fr.grown (t := t) (Fr.of_below hb) hg (fun g hg => (own_ty (own_below hown hb)) g hg) (by simp)

theorem own_fr {w w' : World} {B t size n base : Nat} {T : List TypeId} {v : Value} {xs : List Value} (h : w.ownsRow B t size v n xs) (f : Fr base T w w') (ht : t ∉ T) : w'.ownsRow B t size v n xs := by
  refine ⟨h.1, ?_⟩
  rcases h.2 with h2 | ⟨g, cap, cur, hv, hb, hh, r⟩
  · exact .inl h2
  · exact .inr ⟨g, cap, cur, hv, hb, (f.block g (TyAt.lt ⟨_, _, hh⟩) (.inr ⟨_, _, _, hh, ht⟩)).trans hh, r⟩

end Go.Proofs.YtgomgoacponbkaaDoor
