/- Contracts, packed: Qr Kp Qk. -/
import Derived.Test.YthoibeajhdhdhaaDoorPp19
import Derived.Test.YthoibeajhdhdhaaDoorPp21
import Derived.Test.YthoibeajhdhdhaaDoorPp22
import Derived.Test.YthoibeajhdhdhaaDoorPp23
import Derived.Deep.RegionLaw
set_option linter.unusedVariables false
set_option linter.unusedSimpArgs false
namespace Go.Proofs.YthoibeajhdhdhaaDoor
section
open Go.RowKit FracM

def NmOk (o B nb : Nat) (W : World) : Prop := SeqP W (fun b _ => o < b ∧ b < B) 1 (.slice (some ⟨nb, 0, none⟩) 6 6) 6 (namesL.map Value.string) ∧ B ≤ W.heap.size
theorem NmOk.below {o B nb : Nat} {w w' : World} (h : NmOk o B nb w) (f : Below B w w') : NmOk o B nb w' := ⟨h.1.keep (Agree.of_lt f fun b e hp => hp.2), Nat.le_trans h.2 f.size⟩
theorem NmOk.set {o B nb : Nat} {w : World} (h : NmOk o B nb w) (k : Nat) (v : Value) : NmOk o B nb (w.setCell ⟨o, k, none⟩ v) := ⟨h.1.keep (Agree.of_only (Only.setCell k v) fun b e hp => by have := hp.1; omega), by simpa [World.setCell] using h.2⟩
end
section
open Go.RowKit FracM

/-- the words of a variable, in its cells -/
def WordsAt (w : World) (g : Nat) (l : List (List UInt8)) : Prop := g < w.heap.size ∧ ∀ (k : Nat) (x : List UInt8), l[k]? = some x → w.cell? ⟨g, k, none⟩ = some (.string (bsL x))
theorem WordsAt.below {w w' : World} {g : Nat} {l : List (List UInt8)} (h : WordsAt w g l) (hb : Below w.heap.size w w') : WordsAt w' g l := ⟨Nat.lt_of_lt_of_le h.1 hb.size, fun k x hx => (hb.cell h.1).trans (h.2 k x hx)⟩
theorem WordsAt.only {w w' : World} {g q : Nat} {l : List (List UInt8)} (h : WordsAt w g l) (hb : Only q w w') (hq : g ≠ q) : WordsAt w' g l := ⟨Nat.lt_of_lt_of_le h.1 hb.size, fun k x hx => (World.cell?_of_block (a := ⟨g, k, none⟩) (hb.block g h.1 hq)).trans (h.2 k x hx)⟩
/-- a block behind the variables -/
def Far (p : Nat) : Prop := 3 < p ∧ 2 < p ∧ 1 < p ∧ 0 < p
theorem Far.le {p q : Nat} (h : Far p) (k : p ≤ q) : Far q := ⟨Nat.lt_of_lt_of_le h.1 k, Nat.lt_of_lt_of_le h.2.1 k, Nat.lt_of_lt_of_le h.2.2.1 k, Nat.lt_of_lt_of_le h.2.2.2 k⟩
/-- all variables of the parser; q: the block of the parser's state -/
structure WordsP (w : World) (q : Nat) : Prop where
  grp : WordsAt w 3 groupsT
  fn : WordsAt w 2 funcsT
  mat : WordsAt w 1 matchT
  opr : WordsAt w 0 opersT
  far : Far q
theorem WordsP.below {w w' : World} {q : Nat} (h : WordsP w q) (hb : Below w.heap.size w w') : WordsP w' q := ⟨h.grp.below hb, h.fn.below hb, h.mat.below hb, h.opr.below hb, h.far⟩
theorem WordsP.only {w w' : World} {q p : Nat} (h : WordsP w q) (hb : Only p w w') (hp : Far p) : WordsP w' q :=
  ⟨h.grp.only hb (Nat.ne_of_lt hp.1), h.fn.only hb (Nat.ne_of_lt hp.2.1), h.mat.only hb (Nat.ne_of_lt hp.2.2.1), h.opr.only hb (Nat.ne_of_lt hp.2.2.2), h.far⟩
theorem WordsP.low {w : World} {q : Nat} (h : WordsP w q) : Far w.heap.size := ⟨h.grp.1, h.fn.1, h.mat.1, h.opr.1⟩
theorem getD_map (l : List (List UInt8)) (k : Nat) : (l.map bsL).getD k ByteArray.empty = bsL (l.getD k []) := by
  rw [List.getD_eq_getElem?_getD, List.getD_eq_getElem?_getD, List.getElem?_map]
  cases l[k]? <;> rfl
theorem idx_eq (l : List (List UInt8)) (x : List UInt8) : Lib.idxOfS (l.map bsL) (bsL x) = idxT l x := by
  have ht : l.map bsL = (l.map bsL).take l.length := by rw [List.take_of_length_le (by simp)]
  rw [ht]
  unfold idxT
  cases h : l.findIdx? (fun y => y == x) with
  | none =>
    rw [List.findIdx?_eq_none_iff] at h
    refine Lib.idxOfS_miss _ _ _ fun j hj e => ?_
    rw [getD_map, bsL_inj] at e
    have := h (l[j]) (List.getElem_mem hj)
    rw [List.getD_eq_getElem?_getD, List.getElem?_eq_getElem hj] at e
    simp at e this
    exact this e
  | some i =>
    rw [List.findIdx?_eq_some_iff_getElem] at h
    obtain ⟨hi, h1, h2⟩ := h
    refine Lib.idxOfS_hit _ _ i _ hi (by simp) ?_ fun j hj e => ?_
    · rw [getD_map, bsL_inj, List.getD_eq_getElem?_getD, List.getElem?_eq_getElem hi]
      simpa using h1
    · rw [getD_map, bsL_inj, List.getD_eq_getElem?_getD, List.getElem?_eq_getElem (by omega)] at e
      have := h2 j hj
      simp at e this
      exact this e
theorem pindex_any (g n : Nat) (l : List (List UInt8)) (hn : n = l.length) (hl : n ≤ 100) (x : List UInt8) (w : World) (h : WordsAt w g l) :
    Calls Tryd.prog 89 #[.slice (some ⟨g, 0, none⟩) n n, .string (bsL x)] w fun e w' => e = .returned (.int .i64 (idxT l x)) ∧ w = w' := by
  subst hn
  refine (Tryd.slices_Index_string g 0 l.length l.length (l.map bsL) (bsL x) w (by simp) (by omega) (fun j hj => ?_)).mono ?_
  · rw [getD_map, Nat.zero_add]
    simp only [List.length_map] at hj
    exact h.2 j _ (by rw [List.getD_eq_getElem?_getD, List.getElem?_eq_getElem hj]; rfl)
  · rintro e w' ⟨rfl, rfl⟩
    refine ⟨?_, rfl⟩
    rw [List.take_of_length_le (by simp), idx_eq]
end
section
open Go.RowKit FracM

def AnyP : Nat → Nat → Prop := fun _ _ => True
def StrsP (w : World) (v : Value) (l : List ByteArray) : Prop := SeqP w AnyP 1 v l.length (l.map Value.string)
/-- a slice of strings is returned -/
def RetStrs (l : List ByteArray) (w : World) (e : Ending) (w' : World) : Prop := ∃ A n c, e = .returned (.slice A n c) ∧ n = l.length ∧ StrsP w' (.slice A n c) l ∧ Below w.heap.size w w'
theorem StrsP.below {w w' : World} {v : Value} {l : List ByteArray} (h : StrsP w v l) (hb : Below w.heap.size w w') : StrsP w' v l := h.keep (Agree.of_below hb)
theorem kid2 {w : World} {P : Nat → Nat → Prop} {d : Nd} {ks : List Tree} {mv bv : Value} {A : Option Addr} {n c : Nat} (h : Nod w P d ks mv bv (.slice A n c)) (i : Nat) (hi : i < ks.length) :
    ∃ e es b off B1 m1 B2 m2 B3 m3, ks[i]? = some (.node e es) ∧ A = some ⟨b, off, none⟩ ∧ b < w.heap.size ∧ (∃ z, P b z) ∧ At11 w b (off + i * 11) e (.slice B1 e.ms.length m1) (.slice B2 e.bys.length m2) (.slice B3 es.length m3) ∧ TreeAt w P (.node e es) (.slice B1 e.ms.length m1, .slice B2 e.bys.length m2, .slice B3 es.length m3) := by
  obtain ⟨x, hx⟩ : ∃ x, ks[i]? = some x := ⟨ks[i], List.getElem?_eq_getElem _⟩
  obtain ⟨e, es⟩ := x
  obtain ⟨b, off, mv', bv', kv', rfl, hb, hp, h11, hT⟩ := h.kid i e es hx
  obtain ⟨B1, m1, rfl, -⟩ := hT.nod.ms.form
  obtain ⟨B2, m2, rfl, -⟩ := hT.nod.bys.form
  obtain ⟨B3, m3, rfl, -⟩ := hT.nod.kform
  exact ⟨e, es, b, off, B1, m1, B2, m2, B3, m3, hx, rfl, hb, hp, h11, hT⟩
end
end Go.Proofs.YthoibeajhdhdhaaDoor
