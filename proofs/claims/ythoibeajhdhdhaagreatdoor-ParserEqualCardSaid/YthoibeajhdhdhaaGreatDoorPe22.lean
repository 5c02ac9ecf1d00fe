/- Contracts, packed: De. -/
import Derived.Test.YthoibeajhdhdhaaGreatDoorPe17
import Derived.Test.YthoibeajhdhdhaaGreatDoorPe21
set_option linter.unusedVariables false
set_option linter.unusedSimpArgs false
namespace Go.Proofs.YthoibeajhdhdhaaGreatDoor
section
open Go.RowKit FracM
def RetT2D (l : List Int) (ns : List ByteArray) (most : Int) (w : World) (e : Ending) (w' : World) : Prop :=
 ∃ (t : Tree) (s : Sl), e = .returned (.agg (ndC t.d s.1 s.2.1 s.2.2)) ∧ TreeF w' w.heap.size t s ∧ GoodT ns most t ∧ dep t ≤ 4 ∧ nds t ≤ 15 ∧ Below w.heap.size w w' ∧ t = (exprF l ns most 4 0).1
theorem genD_ok (g : Nat) (lv nv : Value) (l : List Int) (ns : List ByteArray) (most : Int) (hok : NamesOk ns) (hns : 1 ≤ ns.length) (hns2 : ns.length ≤ 1000) (hm : 1 ≤ most) (hm2 : most ≤ 4096) : ExprOkD g lv nv l ns most 4 15 (exprF l ns most 4) :=
 exprD_any g lv nv l ns most 4 3 (by omega) 7 (fun _ => exprD_any g lv nv l ns most 3 2 (by omega) 3 (fun _ => exprD_any g lv nv l ns most 2 1 (by omega) 1 (fun _ => exprD_any g lv nv l ns most 1 0 (by omega) 0 (fun h => by omega) (by omega) (by omega) hok hns hns2 hm hm2) (by omega) (by omega) hok hns hns2 hm hm2) (by omega) (by omega) hok hns hns2 hm hm2) (by omega) (by omega) hok hns hns2 hm hm2
set_option maxHeartbeats 2000000 in
set_option maxRecDepth 100000 in
theorem makeD_any (lv nv : Value) (l : List Int) (ns : List ByteArray) (most : Int) (w : World) (h1 : IntsP w lv l) (h2 : StrsL w nv ns) (hok : NamesOk ns) (hns : 1 ≤ ns.length) (hns2 : ns.length ≤ 1000) (hm0 : 1 < most) (hm2 : most ≤ 4096) :
  Calls Tryz.prog 39 #[lv, nv, .int .i64 most] w (RetT2D l ns most w) := by
 have hm : 1 ≤ most := by omega
 have hm3 : ¬ most ≤ 1 := by omega
 have hm4 : ¬ most < 1 := by omega
 have HE := genD_ok (w.heap.size + 1) lv nv l ns most hok hns hns2 hm hm2
 unfold ExprOkD at HE
 have HE := Box.mk HE
 have HG : Box (GenAt ((w.alloc (.cells zeroC 29)).alloc (.cells #[lv, .int .i64 0, nv, .int .i64 most] 100)) (w.heap.size + 1) 0 lv nv l ns most) := ⟨⟨Blk.newAt _ _ (by simp), (h1.1.mono fun b e hb hp => by show b < w.heap.size + 1; omega).keep (Agree.of_below (bel2 _ _ _)), h1.2, (h2.mono fun b e hb hp => by show b < w.heap.size + 1; omega).keep (Agree.of_below (bel2 _ _ _))⟩⟩
 have HP : Box (Blk ((w.alloc (.cells zeroC 29)).alloc (.cells #[lv, .int .i64 0, nv, .int .i64 most] 100)) w.heap.size 29 zeroC ∧ Below w.heap.size w ((w.alloc (.cells zeroC 29)).alloc (.cells #[lv, .int .i64 0, nv, .int .i64 most] 100))) := ⟨(Blk.new _ _ _).alloc _, bel2 _ _ _⟩
 obtain ⟨A1, c1, rfl, -⟩ := h1.1.form
 obtain ⟨A2, c2, rfl, -⟩ := h2.form
 have hz : ((w.alloc (.cells zeroC 29)).alloc (.cells #[.slice A1 l.length c1, .int .i64 0, .slice A2 ns.length c2, .int .i64 most] 100)).heap.size = w.heap.size + 2 := by simp
 clear h1 h2
 go_enter Tryz.func39, Tryz.ntmps39
 have hmx : max 1 most = most := by omega
 go_wp2_with fail
 generalize ((w.alloc (.cells zeroC 29)).alloc (.cells #[.slice A1 l.length c1, .int .i64 0, .slice A2 ns.length c2, .int .i64 most] 100)) = W at *
 have HZ := Box.mk hz
 clear hz hmx
 (with_reducible refine (HE.out 0 W HG.out (by omega) (by omega)).mono ?_)
 rintro e w2 ⟨t, s, i8, rfl, ht8, hgd8, hd8, hn8, hi8, hi9, hg8, ho8, hx8⟩
 have HX8 := Box.mk hx8
 clear hx8
 obtain ⟨d, ks⟩ := t
 obtain ⟨mv, bv, kv⟩ := s
 obtain ⟨A1, n1, rfl, -⟩ := ht8.form.1
 obtain ⟨A2, n2, rfl, -⟩ := ht8.form.2.1
 obtain ⟨A3, n3, rfl, -⟩ := ht8.form.2.2
 simp only [Tree.d]
 have hR := ho8.blk HP.out.1 (by omega)
 have HR := Box.mk hR
 have HT := Box.mk (ht8.lower (B' := w.heap.size + 1) (by have := HZ.out; omega))
 have HO : Box (Below w.heap.size w w2) := ⟨HP.out.2.trans (ho8.below (by omega) HP.out.2.size)⟩
 have HD := Box.mk (And.intro hgd8 (And.intro hd8 hn8))
 clear ht8 hgd8 hd8 hn8 hi8 hi9 hg8 ho8 HG HP hR
 obtain ⟨z0, z1, z2, z3, z4, z5, z6, z7, z8, z9, z10⟩ := blk11 HR.out
 simp only [Nat.zero_add] at z1 z2 z3 z4 z5 z6 z7 z8 z9 z10
 have zf := HR.out.frozen
 go_wp2_with fail
 have HF : Box (Blk (put11 w2 w.heap.size (.int .i64 d.kind) (.int .i64 d.fn) (.int .i64 d.win) (.int .i64 d.off) (.int .i64 d.k) (.int .i64 d.num) (.int .i64 d.den) (.string d.name) (.slice A1 d.ms.length n1) (.slice A2 d.bys.length n2) (.slice A3 ks.length n3)) w.heap.size 29 (ndC d (.slice A1 d.ms.length n1) (.slice A2 d.bys.length n2) (.slice A3 ks.length n3))) := ⟨put11_blk HR.out⟩
 have HA : Box (Below w.heap.size w (put11 w2 w.heap.size (.int .i64 d.kind) (.int .i64 d.fn) (.int .i64 d.win) (.int .i64 d.off) (.int .i64 d.k) (.int .i64 d.num) (.int .i64 d.den) (.string d.name) (.slice A1 d.ms.length n1) (.slice A2 d.bys.length n2) (.slice A3 ks.length n3)) ∧ TreeF (put11 w2 w.heap.size (.int .i64 d.kind) (.int .i64 d.fn) (.int .i64 d.win) (.int .i64 d.off) (.int .i64 d.k) (.int .i64 d.num) (.int .i64 d.den) (.string d.name) (.slice A1 d.ms.length n1) (.slice A2 d.bys.length n2) (.slice A3 ks.length n3)) (w.heap.size + 1) (.node d ks) (.slice A1 d.ms.length n1, .slice A2 d.bys.length n2, .slice A3 ks.length n3)) := ⟨HO.out.trans (put11_below (Nat.le_refl _) ..), HT.out.far (put11_only ..) (by omega)⟩
 show bodyPost _ _ _ _ _ (put11 w2 w.heap.size (.int .i64 d.kind) (.int .i64 d.fn) (.int .i64 d.win) (.int .i64 d.off) (.int .i64 d.k) (.int .i64 d.num) (.int .i64 d.den) (.string d.name) (.slice A1 d.ms.length n1) (.slice A2 d.bys.length n2) (.slice A3 ks.length n3))
 generalize (put11 w2 w.heap.size (.int .i64 d.kind) (.int .i64 d.fn) (.int .i64 d.win) (.int .i64 d.off) (.int .i64 d.k) (.int .i64 d.num) (.int .i64 d.den) (.string d.name) (.slice A1 d.ms.length n1) (.slice A2 d.bys.length n2) (.slice A3 ks.length n3)) = WF at HF HA ⊢
 clear HR HT HO z0 z1 z2 z3 z4 z5 z6 z7 z8 z9 z10 zf
 obtain ⟨e0, e1, e2, e3, e4, e5, e6, e7, e8, e9, e10⟩ := blk11 HF.out
 simp only [Nat.zero_add] at e1 e2 e3 e4 e5 e6 e7 e8 e9 e10
 have ef := HF.out.frozen
 refine bodyPost_ret (v := .agg (ndC d (.slice A1 d.ms.length n1) (.slice A2 d.bys.length n2) (.slice A3 ks.length n3))) (by simp [results, Tryz.results39, go_sem, e0, e1, e2, e3, e4, e5, e6, e7, e8, e9, e10, ef]) rfl ?_
 obtain ⟨y1, y2, y3⟩ := HD.out
 exact ⟨.node d ks, (.slice A1 d.ms.length n1, .slice A2 d.bys.length n2, .slice A3 ks.length n3), rfl, HA.out.2.lower (by omega), y1, by omega, y3, HA.out.1, by rw [HX8.out]⟩
set_option maxHeartbeats 4000000 in
set_option maxRecDepth 100000 in
theorem expr0D_any (lv : Value) (l : List Int) (w : World) (h1 : IntsP w lv l) :
  Calls Tryz.prog 10 #[lv] w (RetT2D l ns6 4096 w) := by
 obtain ⟨A1, c1, rfl, hlen⟩ := h1.1.form
 have HI0 := Box.mk h1
 clear h1
 go_enter Tryz.func10, Tryz.ntmps10
 have HP : Box (Blk ((w.alloc (.cells zeroC 29)).alloc (.cells #[.string ⟨#[99, 112, 117]⟩, .string ⟨#[109, 101, 109]⟩, .string ⟨#[97]⟩, .string ⟨#[108, 97, 115, 116]⟩, .string ⟨#[98, 121]⟩, .string ⟨#[120, 95, 49]⟩] 9)) w.heap.size 29 zeroC ∧ Below w.heap.size w ((w.alloc (.cells zeroC 29)).alloc (.cells #[.string ⟨#[99, 112, 117]⟩, .string ⟨#[109, 101, 109]⟩, .string ⟨#[97]⟩, .string ⟨#[108, 97, 115, 116]⟩, .string ⟨#[98, 121]⟩, .string ⟨#[120, 95, 49]⟩] 9))) := ⟨(Blk.new _ _ _).alloc _, bel2 _ _ _⟩
 have HI : Box (IntsP ((w.alloc (.cells zeroC 29)).alloc (.cells #[.string ⟨#[99, 112, 117]⟩, .string ⟨#[109, 101, 109]⟩, .string ⟨#[97]⟩, .string ⟨#[108, 97, 115, 116]⟩, .string ⟨#[98, 121]⟩, .string ⟨#[120, 95, 49]⟩] 9)) (.slice A1 l.length c1) l) := ⟨IntsP.belo HI0.out (bel2 _ _ _)⟩
 have HS : Box (StrsL ((w.alloc (.cells zeroC 29)).alloc (.cells #[.string ⟨#[99, 112, 117]⟩, .string ⟨#[109, 101, 109]⟩, .string ⟨#[97]⟩, .string ⟨#[108, 97, 115, 116]⟩, .string ⟨#[98, 121]⟩, .string ⟨#[120, 95, 49]⟩] 9)) (.slice (some ⟨w.heap.size + 1, 0, none⟩) 6 6) ns6) := ⟨SeqP.of_blk (n := 6) (size := 1) (Blk.newAt _ _ (by simp)) rfl (by omega) (by simp)⟩
 go_wp2_with fail
 (with_reducible refine (makeD_any (.slice A1 l.length c1) (.slice (some ⟨w.heap.size + 1, 0, none⟩) 6 6) l ns6 4096 _ HI.out HS.out ns6_ok (by decide) (by decide) (by omega) (by omega)).mono ?_)
 rintro e w2 ⟨t, s, rfl, ht8, hgd8, hd8, hn8, ho8, hx8⟩
 have HX8 := Box.mk hx8
 clear hx8
 obtain ⟨d, ks⟩ := t
 obtain ⟨mv, bv, kv⟩ := s
 obtain ⟨A1, n1, rfl, -⟩ := ht8.form.1
 obtain ⟨A2, n2, rfl, -⟩ := ht8.form.2.1
 obtain ⟨A3, n3, rfl, -⟩ := ht8.form.2.2
 simp only [Tree.d]
 have HR := Box.mk (HP.out.1.below ho8)
 have HT := Box.mk (ht8.lower (B' := w.heap.size + 1) (by simp))
 have HO := Box.mk (HP.out.2.trans (ho8.mono HP.out.2.size))
 have HD := Box.mk (And.intro hgd8 (And.intro hd8 hn8))
 clear ht8 hgd8 hd8 hn8 ho8 HP
 obtain ⟨z0, z1, z2, z3, z4, z5, z6, z7, z8, z9, z10⟩ := blk11 HR.out
 simp only [Nat.zero_add] at z1 z2 z3 z4 z5 z6 z7 z8 z9 z10
 have zf := HR.out.frozen
 go_wp2_with fail
 have HF : Box (Blk (put11 w2 w.heap.size (.int .i64 d.kind) (.int .i64 d.fn) (.int .i64 d.win) (.int .i64 d.off) (.int .i64 d.k) (.int .i64 d.num) (.int .i64 d.den) (.string d.name) (.slice A1 d.ms.length n1) (.slice A2 d.bys.length n2) (.slice A3 ks.length n3)) w.heap.size 29 (ndC d (.slice A1 d.ms.length n1) (.slice A2 d.bys.length n2) (.slice A3 ks.length n3))) := ⟨put11_blk HR.out⟩
 have HA : Box (Below w.heap.size w (put11 w2 w.heap.size (.int .i64 d.kind) (.int .i64 d.fn) (.int .i64 d.win) (.int .i64 d.off) (.int .i64 d.k) (.int .i64 d.num) (.int .i64 d.den) (.string d.name) (.slice A1 d.ms.length n1) (.slice A2 d.bys.length n2) (.slice A3 ks.length n3)) ∧ TreeF (put11 w2 w.heap.size (.int .i64 d.kind) (.int .i64 d.fn) (.int .i64 d.win) (.int .i64 d.off) (.int .i64 d.k) (.int .i64 d.num) (.int .i64 d.den) (.string d.name) (.slice A1 d.ms.length n1) (.slice A2 d.bys.length n2) (.slice A3 ks.length n3)) (w.heap.size + 1) (.node d ks) (.slice A1 d.ms.length n1, .slice A2 d.bys.length n2, .slice A3 ks.length n3)) := ⟨HO.out.trans (put11_below (Nat.le_refl _) ..), HT.out.far (put11_only ..) (by omega)⟩
 show bodyPost _ _ _ _ _ (put11 w2 w.heap.size (.int .i64 d.kind) (.int .i64 d.fn) (.int .i64 d.win) (.int .i64 d.off) (.int .i64 d.k) (.int .i64 d.num) (.int .i64 d.den) (.string d.name) (.slice A1 d.ms.length n1) (.slice A2 d.bys.length n2) (.slice A3 ks.length n3))
 generalize (put11 w2 w.heap.size (.int .i64 d.kind) (.int .i64 d.fn) (.int .i64 d.win) (.int .i64 d.off) (.int .i64 d.k) (.int .i64 d.num) (.int .i64 d.den) (.string d.name) (.slice A1 d.ms.length n1) (.slice A2 d.bys.length n2) (.slice A3 ks.length n3)) = WF at HF HA ⊢
 clear HR HT HO z0 z1 z2 z3 z4 z5 z6 z7 z8 z9 z10 zf
 obtain ⟨e0, e1, e2, e3, e4, e5, e6, e7, e8, e9, e10⟩ := blk11 HF.out
 simp only [Nat.zero_add] at e1 e2 e3 e4 e5 e6 e7 e8 e9 e10
 have ef := HF.out.frozen
 refine bodyPost_ret (v := .agg (ndC d (.slice A1 d.ms.length n1) (.slice A2 d.bys.length n2) (.slice A3 ks.length n3))) (by simp [results, Tryz.results10, go_sem, e0, e1, e2, e3, e4, e5, e6, e7, e8, e9, e10, ef]) rfl ?_
 obtain ⟨y1, y2, y3⟩ := HD.out
 exact ⟨.node d ks, (.slice A1 d.ms.length n1, .slice A2 d.bys.length n2, .slice A3 ks.length n3), rfl, HA.out.2.lower (by omega), y1, y2, y3, HA.out.1, HX8.out⟩
end
end Go.Proofs.YthoibeajhdhdhaaGreatDoor
