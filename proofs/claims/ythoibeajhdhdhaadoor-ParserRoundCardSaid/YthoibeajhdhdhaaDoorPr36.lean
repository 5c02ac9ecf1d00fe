/- Contracts, packed: Qy Qm. -/
import Derived.Test.YthoibeajhdhdhaaDoorPr25
import Derived.Test.YthoibeajhdhdhaaDoorPr35
set_option linter.unusedVariables false
set_option linter.unusedSimpArgs false
namespace Go.Proofs.YthoibeajhdhdhaaDoor
section
section
open Go.RowKit FracM

/-- a tree is returned -/
def RetT2 (ns : List ByteArray) (most : Int) (w : World) (e : Ending) (w' : World) : Prop :=
  ∃ (t : Tree) (s : Sl), e = .returned (.agg (ndC t.d s.1 s.2.1 s.2.2)) ∧ TreeF w' w.heap.size t s ∧ GoodT ns most t ∧ dep t ≤ 4 ∧ nds t ≤ 15 ∧ Below w.heap.size w w'
theorem gen_ok (g : Nat) (lv nv : Value) (l : List Int) (ns : List ByteArray) (most : Int) (hok : NamesOk ns) (hns : 1 ≤ ns.length) (hns2 : ns.length ≤ 1000) (hm : 1 ≤ most) (hm2 : most ≤ 4096) : ExprOk g lv nv l ns most 4 15 :=
  expr_any g lv nv l ns most 4 7 (fun _ => expr_any g lv nv l ns most 3 3 (fun _ => expr_any g lv nv l ns most 2 1 (fun _ => expr_any g lv nv l ns most 1 0 (fun h => by omega) (by omega) (by omega) hok hns hns2 hm hm2) (by omega) (by omega) hok hns hns2 hm hm2) (by omega) (by omega) hok hns hns2 hm hm2) (by omega) (by omega) hok hns hns2 hm hm2
def IntsP (w : World) (v : Value) (l : List Int) : Prop := SeqP w (fun b _ => b < w.heap.size) 1 v l.length (l.map (Value.int .i64)) ∧ ∀ x ∈ l, I64 x
def StrsL (w : World) (v : Value) (l : List ByteArray) : Prop := SeqP w (fun b _ => b < w.heap.size) 1 v l.length (l.map Value.string)
set_option maxHeartbeats 2000000 in
set_option maxRecDepth 100000 in
theorem make_any (lv nv : Value) (l : List Int) (ns : List ByteArray) (most : Int) (w : World) (h1 : IntsP w lv l) (h2 : StrsL w nv ns) (hok : NamesOk ns) (hns : 1 ≤ ns.length) (hns2 : ns.length ≤ 1000) (hm0 : 1 < most) (hm2 : most ≤ 4096) :
    Calls Tryd.prog 16 #[lv, nv, .int .i64 most] w (RetT2 ns most w) := by
  have hm : 1 ≤ most := by omega
  have hm3 : ¬ most ≤ 1 := by omega
  have hm4 : ¬ most < 1 := by omega
  have HE := gen_ok (w.heap.size + 1) lv nv l ns most hok hns hns2 hm hm2
  unfold ExprOk at HE
  have HE := Box.mk HE
  have HG : Box (GenAt ((w.alloc (.cells zeroC 29)).alloc (.cells #[lv, .int .i64 0, nv, .int .i64 most] 75)) (w.heap.size + 1) 0 lv nv l ns most) := ⟨⟨Blk.newAt _ _ (by simp), (h1.1.mono fun b e hb hp => by show b < w.heap.size + 1; omega).keep (Agree.of_below (bel2 _ _ _)), h1.2, (h2.mono fun b e hb hp => by show b < w.heap.size + 1; omega).keep (Agree.of_below (bel2 _ _ _))⟩⟩
  have HP : Box (Blk ((w.alloc (.cells zeroC 29)).alloc (.cells #[lv, .int .i64 0, nv, .int .i64 most] 75)) w.heap.size 29 zeroC ∧ Below w.heap.size w ((w.alloc (.cells zeroC 29)).alloc (.cells #[lv, .int .i64 0, nv, .int .i64 most] 75))) := ⟨(Blk.new _ _ _).alloc _, bel2 _ _ _⟩
  obtain ⟨A1, c1, rfl, -⟩ := h1.1.form
  obtain ⟨A2, c2, rfl, -⟩ := h2.form
  have hz : ((w.alloc (.cells zeroC 29)).alloc (.cells #[.slice A1 l.length c1, .int .i64 0, .slice A2 ns.length c2, .int .i64 most] 75)).heap.size = w.heap.size + 2 := by simp
  clear h1 h2
  go_enter Tryd.func16, Tryd.ntmps16
  have hmx : max 1 most = most := by omega
  go_wp2_with fail
  generalize ((w.alloc (.cells zeroC 29)).alloc (.cells #[.slice A1 l.length c1, .int .i64 0, .slice A2 ns.length c2, .int .i64 most] 75)) = W at *
  have HZ := Box.mk hz
  clear hz hmx
  (with_reducible refine (HE.out 0 W HG.out (by omega) (by omega)).mono ?_)
  rintro e w2 ⟨t, s, i8, rfl, ht8, hgd8, hd8, hn8, hi8, hi9, hg8, ho8⟩
  obtain ⟨d, ks⟩ := t
  obtain ⟨mv, bv, kv⟩ := s
  obtain ⟨A1, n1, rfl, -⟩ := ht8.form.1
  obtain ⟨A2, n2, rfl, -⟩ := ht8.form.2.1
  obtain ⟨A3, n3, rfl, -⟩ := ht8.form.2.2
  simp only [Tree.d]
  have hR := ho8.blk HP.out.1 (by omega)
  have HR := Box.mk hR
  have HT := Box.mk (ht8.lower (B' := w.heap.size + 1) (by have := HZ.out; omega))
  have HO : Box (Below w.heap.size w w2) := ⟨HP.out.2.trans (ho8.below (by omega) HP.out.2.size)⟩
  have HD := Box.mk (And.intro hgd8 (And.intro hd8 hn8))
  clear ht8 hgd8 hd8 hn8 hi8 hi9 hg8 ho8 HG HP hR
  obtain ⟨z0, z1, z2, z3, z4, z5, z6, z7, z8, z9, z10⟩ := blk11 HR.out
  simp only [Nat.zero_add] at z1 z2 z3 z4 z5 z6 z7 z8 z9 z10
  have zf := HR.out.frozen
  go_wp2_with fail
  have HF : Box (Blk (put11 w2 w.heap.size (.int .i64 d.kind) (.int .i64 d.fn) (.int .i64 d.win) (.int .i64 d.off) (.int .i64 d.k) (.int .i64 d.num) (.int .i64 d.den) (.string d.name) (.slice A1 d.ms.length n1) (.slice A2 d.bys.length n2) (.slice A3 ks.length n3)) w.heap.size 29 (ndC d (.slice A1 d.ms.length n1) (.slice A2 d.bys.length n2) (.slice A3 ks.length n3))) := ⟨put11_blk HR.out⟩
  have HA : Box (Below w.heap.size w (put11 w2 w.heap.size (.int .i64 d.kind) (.int .i64 d.fn) (.int .i64 d.win) (.int .i64 d.off) (.int .i64 d.k) (.int .i64 d.num) (.int .i64 d.den) (.string d.name) (.slice A1 d.ms.length n1) (.slice A2 d.bys.length n2) (.slice A3 ks.length n3)) ∧ TreeF (put11 w2 w.heap.size (.int .i64 d.kind) (.int .i64 d.fn) (.int .i64 d.win) (.int .i64 d.off) (.int .i64 d.k) (.int .i64 d.num) (.int .i64 d.den) (.string d.name) (.slice A1 d.ms.length n1) (.slice A2 d.bys.length n2) (.slice A3 ks.length n3)) (w.heap.size + 1) (.node d ks) (.slice A1 d.ms.length n1, .slice A2 d.bys.length n2, .slice A3 ks.length n3)) := ⟨HO.out.trans (put11_below (Nat.le_refl _) ..), HT.out.far (put11_only ..) (by omega)⟩
  show bodyPost _ _ _ _ _ (put11 w2 w.heap.size (.int .i64 d.kind) (.int .i64 d.fn) (.int .i64 d.win) (.int .i64 d.off) (.int .i64 d.k) (.int .i64 d.num) (.int .i64 d.den) (.string d.name) (.slice A1 d.ms.length n1) (.slice A2 d.bys.length n2) (.slice A3 ks.length n3))
  generalize (put11 w2 w.heap.size (.int .i64 d.kind) (.int .i64 d.fn) (.int .i64 d.win) (.int .i64 d.off) (.int .i64 d.k) (.int .i64 d.num) (.int .i64 d.den) (.string d.name) (.slice A1 d.ms.length n1) (.slice A2 d.bys.length n2) (.slice A3 ks.length n3)) = WF at HF HA ⊢
  clear HR HT HO z0 z1 z2 z3 z4 z5 z6 z7 z8 z9 z10 zf
  obtain ⟨e0, e1, e2, e3, e4, e5, e6, e7, e8, e9, e10⟩ := blk11 HF.out
  simp only [Nat.zero_add] at e1 e2 e3 e4 e5 e6 e7 e8 e9 e10
  have ef := HF.out.frozen
  refine bodyPost_ret (v := .agg (ndC d (.slice A1 d.ms.length n1) (.slice A2 d.bys.length n2) (.slice A3 ks.length n3))) (by simp [results, Tryd.results16, go_sem, e0, e1, e2, e3, e4, e5, e6, e7, e8, e9, e10, ef]) rfl ?_
  obtain ⟨y1, y2, y3⟩ := HD.out
  exact ⟨.node d ks, (.slice A1 d.ms.length n1, .slice A2 d.bys.length n2, .slice A3 ks.length n3), rfl, HA.out.2.lower (by omega), y1, by omega, y3, HA.out.1⟩
end
section
open Go.RowKit FracM

theorem IntsP.belo {w w' : World} {v : Value} {l : List Int} (h : IntsP w v l) (f : Below w.heap.size w w') : IntsP w' v l := ⟨(h.1.mono fun b e hb hp => by have := f.size; omega).keep (Agree.of_below f), h.2⟩
theorem IntsP.cons {w : World} {A : Option Addr} {n c : Nat} {x : Int} {l : List Int} (h : IntsP w (.slice A n c) (x :: l)) : ∃ b off, A = some ⟨b, off, none⟩ ∧ n = l.length + 1 ∧ l.length + 1 ≤ c ∧ c ≤ 9223372036854775807 ∧ w.cell? ⟨b, off, none⟩ = some (.int .i64 x) ∧ I64 x ∧ (c ≠ 1 → IntsP w (.slice (some ⟨b, off + 1, none⟩) l.length (c - 1)) l) ∧ (c = 1 → l = []) := by
  obtain ⟨⟨h1, A', c', hv, h3, h4, h2⟩, hz⟩ := h
  cases hv
  obtain ⟨b, off, rfl, hb, hp, hx⟩ := h2 (by simp)
  unfold maxLen at h4
  simp only [List.length_cons] at h3 hp
  refine ⟨b, off, rfl, by simp, by omega, by omega, by simpa using hx 0 _ rfl, hz x (by simp), fun hc => ⟨⟨by simp, _, _, rfl, by omega, by unfold maxLen; omega, fun h0 => ⟨b, off + 1, rfl, hb, by simpa using hb, fun j u hu => ?_⟩⟩, fun y hy => hz y (by simp [hy])⟩, fun hc => ?_⟩
  · have := hx (j + 1) u (by simpa using hu)
    rw [show off + 1 + j = off + (j + 1) by omega]; exact this
  · exact List.eq_nil_of_length_eq_zero (by omega)
theorem IntsP.nil (w : World) (A : Option Addr) (c : Nat) (hc : c ≤ 1000) : IntsP w (.slice A 0 c) [] := ⟨⟨rfl, _, _, rfl, by simp, by unfold maxLen; omega, fun h => by simp at h⟩, fun x hx => by simp at hx⟩
end
end
section
open Go.RowKit FracM

def DxOk (w : World) (P : Nat → Nat → Prop) (x : Dx) : Prop := SeqP w P 2 x.lv x.dc.2.1.length (x.dc.2.1.flatMap labCells) ∧ x.dc.1.size ≤ maxLen ∧ I64 x.dc.2.2.1 ∧ I64 x.dc.2.2.2.1 ∧ I64 x.dc.2.2.2.2
def DecsAt (w : World) (P : Nat → Nat → Prop) (v : Value) (l : List Dx) : Prop := SeqP w P 12 v l.length (l.flatMap dcL) ∧ ∀ x ∈ l, DxOk w P x
theorem DecsAt.keep {w w' : World} {P : Nat → Nat → Prop} {v : Value} {l : List Dx} (h : DecsAt w P v l) (f : Agree P w w') : DecsAt w' P v l := ⟨h.1.keep f, fun x hx => ⟨(h.2 x hx).1.keep f, (h.2 x hx).2⟩⟩
theorem DecsAt.mono {w : World} {P Q : Nat → Nat → Prop} {v : Value} {l : List Dx} (h : DecsAt w P v l) (hq : ∀ b e, b < w.heap.size → P b e → Q b e) : DecsAt w Q v l := ⟨h.1.mono hq, fun x hx => ⟨(h.2 x hx).1.mono hq, (h.2 x hx).2⟩⟩
abbrev At12 (w : World) (b o : Nat) (x : Dx) : Prop := w.cell? ⟨b, o, none⟩ = some (.string x.dc.1) ∧ w.cell? ⟨b, o + 1, none⟩ = some x.lv ∧ w.cell? ⟨b, o + 2, none⟩ = some (.int .i64 x.dc.2.2.1) ∧ w.cell? ⟨b, o + 3, none⟩ = some (.int .i64 x.dc.2.2.2.1) ∧ w.cell? ⟨b, o + 4, none⟩ = some (.int .i64 x.dc.2.2.2.2) ∧ w.cell? ⟨b, o + 5, none⟩ = some (.int .i64 (x.o 0)) ∧ w.cell? ⟨b, o + 6, none⟩ = some (.int .i64 (x.o 1)) ∧ w.cell? ⟨b, o + 7, none⟩ = some (.int .i64 (x.o 2)) ∧ w.cell? ⟨b, o + 8, none⟩ = some (.int .i64 (x.o 3)) ∧ w.cell? ⟨b, o + 9, none⟩ = some (.int .i64 (x.o 4)) ∧ w.cell? ⟨b, o + 10, none⟩ = some (.int .i64 (x.o 5)) ∧ w.cell? ⟨b, o + 11, none⟩ = some (.int .i64 (x.o 6))
theorem DecsAt.at_ {w : World} {P : Nat → Nat → Prop} {A : Option Addr} {n c : Nat} {l : List Dx} (h : DecsAt w P (.slice A n c) l) (i : Nat) (x : Dx) (hi : l[i]? = some x) :
    ∃ b off, A = some ⟨b, off, none⟩ ∧ b < w.heap.size ∧ (∃ z, P b z) ∧ At12 w b (off + i * 12) x := by
  have hlt : i < l.length := (List.getElem?_eq_some_iff.1 hi).1
  obtain ⟨⟨_, A', c', hv, _, _, h2⟩, _⟩ := h
  cases hv
  obtain ⟨b, off, rfl, hb, hp, hx⟩ := h2 (by omega)
  refine ⟨b, off, rfl, hb, ⟨_, hp⟩, ?_⟩
  have g := fun j (hj : j < 12) => flat_get dcL 12 (fun _ => rfl) l i j _ hi hj
  refine ⟨?_, ?_, ?_, ?_, ?_, ?_, ?_, ?_, ?_, ?_, ?_, ?_⟩
  · exact hx _ _ ((g 0 (by omega)).trans rfl)
  · rw [Nat.add_assoc]; exact hx _ _ ((g 1 (by omega)).trans rfl)
  · rw [Nat.add_assoc]; exact hx _ _ ((g 2 (by omega)).trans rfl)
  · rw [Nat.add_assoc]; exact hx _ _ ((g 3 (by omega)).trans rfl)
  · rw [Nat.add_assoc]; exact hx _ _ ((g 4 (by omega)).trans rfl)
  · rw [Nat.add_assoc]; exact hx _ _ ((g 5 (by omega)).trans rfl)
  · rw [Nat.add_assoc]; exact hx _ _ ((g 6 (by omega)).trans rfl)
  · rw [Nat.add_assoc]; exact hx _ _ ((g 7 (by omega)).trans rfl)
  · rw [Nat.add_assoc]; exact hx _ _ ((g 8 (by omega)).trans rfl)
  · rw [Nat.add_assoc]; exact hx _ _ ((g 9 (by omega)).trans rfl)
  · rw [Nat.add_assoc]; exact hx _ _ ((g 10 (by omega)).trans rfl)
  · rw [Nat.add_assoc]; exact hx _ _ ((g 11 (by omega)).trans rfl)
theorem DecsAt.len {w : World} {P : Nat → Nat → Prop} {A : Option Addr} {n c : Nat} {l : List Dx} (h : DecsAt w P (.slice A n c) l) : n = l.length ∧ n ≤ 9223372036854775807 := by
  obtain ⟨⟨_, _, _, hv, h1, h2, _⟩, _⟩ := h
  cases hv
  unfold maxLen at h2
  exact ⟨rfl, by omega⟩
end
end Go.Proofs.YthoibeajhdhdhaaDoor
