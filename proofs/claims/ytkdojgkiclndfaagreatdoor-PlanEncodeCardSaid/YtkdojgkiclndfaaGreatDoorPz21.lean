/- Contracts, packed: Qy Jc Kq Ql Ra Ul. -/
import Derived.Test.YtkdojgkiclndfaaGreatDoorPz10
import Derived.Test.YtkdojgkiclndfaaGreatDoorPz11
import Derived.Test.YtkdojgkiclndfaaGreatDoorPz16
import Derived.Test.YtkdojgkiclndfaaGreatDoorPz17
import Derived.Test.YtkdojgkiclndfaaGreatDoorPz20
import Derived.Laws.Concat
import Derived.Lib.ItoaMem
import Derived.Deep.DeepCutAuto
set_option linter.unusedVariables false
set_option linter.unusedSimpArgs false
namespace Go.Proofs.YtkdojgkiclndfaaGreatDoor
section
section
open Go.RowKit FracM
/-- a tree is returned -/
def RetT2 (ns : List ByteArray) (most : Int) (w : World) (e : Ending) (w' : World) : Prop :=
 ∃ (t : Tree) (s : Sl), e = .returned (.agg (ndC t.d s.1 s.2.1 s.2.2)) ∧ TreeF w' w.heap.size t s ∧ GoodT ns most t ∧ dep t ≤ 4 ∧ nds t ≤ 15 ∧ Below w.heap.size w w'
theorem gen_ok (g : Nat) (lv nv : Value) (l : List Int) (ns : List ByteArray) (most : Int) (hok : NamesOk ns) (hns : 1 ≤ ns.length) (hns2 : ns.length ≤ 1000) (hm : 1 ≤ most) (hm2 : most ≤ 4096) : ExprOk g lv nv l ns most 4 15 :=
 expr_any g lv nv l ns most 4 7 (fun _ => expr_any g lv nv l ns most 3 3 (fun _ => expr_any g lv nv l ns most 2 1 (fun _ => expr_any g lv nv l ns most 1 0 (fun h => by omega) (by omega) (by omega) hok hns hns2 hm hm2) (by omega) (by omega) hok hns hns2 hm hm2) (by omega) (by omega) hok hns hns2 hm hm2) (by omega) (by omega) hok hns hns2 hm hm2
def IntsP (w : World) (v : Value) (l : List Int) : Prop := SeqP w (fun b _ => b < w.heap.size) 1 v l.length (l.map (Value.int .i64)) ∧ ∀ x ∈ l, I64 x
def StrsL (w : World) (v : Value) (l : List ByteArray) : Prop := SeqP w (fun b _ => b < w.heap.size) 1 v l.length (l.map Value.string)
set_option maxHeartbeats 2000000 in
set_option maxRecDepth 100000 in
theorem make_any (lv nv : Value) (l : List Int) (ns : List ByteArray) (most : Int) (w : World) (h1 : IntsP w lv l) (h2 : StrsL w nv ns) (hok : NamesOk ns) (hns : 1 ≤ ns.length) (hns2 : ns.length ≤ 1000) (hm0 : 1 < most) (hm2 : most ≤ 4096) :
  Calls Tryz.prog 23 #[lv, nv, .int .i64 most] w (RetT2 ns most w) := by
 have hm : 1 ≤ most := by omega
 have hm3 : ¬ most ≤ 1 := by omega
 have hm4 : ¬ most < 1 := by omega
 have HE := gen_ok (w.heap.size + 1) lv nv l ns most hok hns hns2 hm hm2
 unfold ExprOk at HE
 have HE := Box.mk HE
 have HG : Box (GenAt ((w.alloc (.cells zeroC 33)).alloc (.cells #[lv, .int .i64 0, nv, .int .i64 most] 99)) (w.heap.size + 1) 0 lv nv l ns most) := ⟨⟨Blk.newAt _ _ (by simp), (h1.1.mono fun b e hb hp => by show b < w.heap.size + 1; omega).keep (Agree.of_below (bel2 _ _ _)), h1.2, (h2.mono fun b e hb hp => by show b < w.heap.size + 1; omega).keep (Agree.of_below (bel2 _ _ _))⟩⟩
 have HP : Box (Blk ((w.alloc (.cells zeroC 33)).alloc (.cells #[lv, .int .i64 0, nv, .int .i64 most] 99)) w.heap.size 33 zeroC ∧ Below w.heap.size w ((w.alloc (.cells zeroC 33)).alloc (.cells #[lv, .int .i64 0, nv, .int .i64 most] 99))) := ⟨(Blk.new _ _ _).alloc _, bel2 _ _ _⟩
 obtain ⟨A1, c1, rfl, -⟩ := h1.1.form
 obtain ⟨A2, c2, rfl, -⟩ := h2.form
 have hz : ((w.alloc (.cells zeroC 33)).alloc (.cells #[.slice A1 l.length c1, .int .i64 0, .slice A2 ns.length c2, .int .i64 most] 99)).heap.size = w.heap.size + 2 := by simp
 clear h1 h2
 go_enter Tryz.func23, Tryz.ntmps23
 have hmx : max 1 most = most := by omega
 go_wp2_with fail
 generalize ((w.alloc (.cells zeroC 33)).alloc (.cells #[.slice A1 l.length c1, .int .i64 0, .slice A2 ns.length c2, .int .i64 most] 99)) = W at *
 have HZ := Box.mk hz
 clear hz hmx
 (with_reducible refine (HE.out 0 W HG.out (by omega) (by omega)).mono ?_)
 rintro e w2 ⟨t, s, i8, rfl, ht8, hgd8, hd8, hn8, hi8, hi9, hg8, ho8⟩
 obtain ⟨d, ks⟩ := t
 obtain ⟨mv, bv, kv⟩ := s
 obtain ⟨A1, n1, rfl, -⟩ := ht8.form.1
 obtain ⟨A2, n2, rfl, -⟩ := ht8.form.2.1
 obtain ⟨A3, n3, rfl, -⟩ := ht8.form.2.2
 simp only [Tree.d]
 have hR := ho8.blk HP.out.1 (by omega)
 have HR := Box.mk hR
 have HT := Box.mk (ht8.lower (B' := w.heap.size + 1) (by have := HZ.out; omega))
 have HO : Box (Below w.heap.size w w2) := ⟨HP.out.2.trans (ho8.below (by omega) HP.out.2.size)⟩
 have HD := Box.mk (And.intro hgd8 (And.intro hd8 hn8))
 clear ht8 hgd8 hd8 hn8 hi8 hi9 hg8 ho8 HG HP hR
 obtain ⟨z0, z1, z2, z3, z4, z5, z6, z7, z8, z9, z10⟩ := blk11 HR.out
 simp only [Nat.zero_add] at z1 z2 z3 z4 z5 z6 z7 z8 z9 z10
 have zf := HR.out.frozen
 go_wp2_with fail
 have HF : Box (Blk (put11 w2 w.heap.size (.int .i64 d.kind) (.int .i64 d.fn) (.int .i64 d.win) (.int .i64 d.off) (.int .i64 d.k) (.int .i64 d.num) (.int .i64 d.den) (.string d.name) (.slice A1 d.ms.length n1) (.slice A2 d.bys.length n2) (.slice A3 ks.length n3)) w.heap.size 33 (ndC d (.slice A1 d.ms.length n1) (.slice A2 d.bys.length n2) (.slice A3 ks.length n3))) := ⟨put11_blk HR.out⟩
 have HA : Box (Below w.heap.size w (put11 w2 w.heap.size (.int .i64 d.kind) (.int .i64 d.fn) (.int .i64 d.win) (.int .i64 d.off) (.int .i64 d.k) (.int .i64 d.num) (.int .i64 d.den) (.string d.name) (.slice A1 d.ms.length n1) (.slice A2 d.bys.length n2) (.slice A3 ks.length n3)) ∧ TreeF (put11 w2 w.heap.size (.int .i64 d.kind) (.int .i64 d.fn) (.int .i64 d.win) (.int .i64 d.off) (.int .i64 d.k) (.int .i64 d.num) (.int .i64 d.den) (.string d.name) (.slice A1 d.ms.length n1) (.slice A2 d.bys.length n2) (.slice A3 ks.length n3)) (w.heap.size + 1) (.node d ks) (.slice A1 d.ms.length n1, .slice A2 d.bys.length n2, .slice A3 ks.length n3)) := ⟨HO.out.trans (put11_below (Nat.le_refl _) ..), HT.out.far (put11_only ..) (by omega)⟩
 show bodyPost _ _ _ _ _ (put11 w2 w.heap.size (.int .i64 d.kind) (.int .i64 d.fn) (.int .i64 d.win) (.int .i64 d.off) (.int .i64 d.k) (.int .i64 d.num) (.int .i64 d.den) (.string d.name) (.slice A1 d.ms.length n1) (.slice A2 d.bys.length n2) (.slice A3 ks.length n3))
 generalize (put11 w2 w.heap.size (.int .i64 d.kind) (.int .i64 d.fn) (.int .i64 d.win) (.int .i64 d.off) (.int .i64 d.k) (.int .i64 d.num) (.int .i64 d.den) (.string d.name) (.slice A1 d.ms.length n1) (.slice A2 d.bys.length n2) (.slice A3 ks.length n3)) = WF at HF HA ⊢
 clear HR HT HO z0 z1 z2 z3 z4 z5 z6 z7 z8 z9 z10 zf
 obtain ⟨e0, e1, e2, e3, e4, e5, e6, e7, e8, e9, e10⟩ := blk11 HF.out
 simp only [Nat.zero_add] at e1 e2 e3 e4 e5 e6 e7 e8 e9 e10
 have ef := HF.out.frozen
 refine bodyPost_ret (v := .agg (ndC d (.slice A1 d.ms.length n1) (.slice A2 d.bys.length n2) (.slice A3 ks.length n3))) (by simp [results, Tryz.results23, go_sem, e0, e1, e2, e3, e4, e5, e6, e7, e8, e9, e10, ef]) rfl ?_
 obtain ⟨y1, y2, y3⟩ := HD.out
 exact ⟨.node d ks, (.slice A1 d.ms.length n1, .slice A2 d.bys.length n2, .slice A3 ks.length n3), rfl, HA.out.2.lower (by omega), y1, by omega, y3, HA.out.1⟩
end
section
open Go.RowKit FracM
theorem IntsP.belo {w w' : World} {v : Value} {l : List Int} (h : IntsP w v l) (f : Below w.heap.size w w') : IntsP w' v l := ⟨(h.1.mono fun b e hb hp => by have := f.size; omega).keep (Agree.of_below f), h.2⟩
end
end
section
open Go.RowKit FracM
/-- the variables that parser and printer read -/
structure LibP (w : World) : Prop where
 grp : WordsAt w 3 groupsT
 fn : WordsAt w 2 funcsT
 mat : WordsAt w 1 matchT
 opr : WordsAt w 0 opersT
 tab : Lib.TabIs Tryz.prog w "internal/strconv.uint64pow10" .u64 Lib.pow10Tab
/-- .. whatever turns from block q on -/
def LibQ (q : Nat) (w : World) : Prop := ∀ w', Below q w w' → LibP w'
/-- a writer under way: the builder, what is kept, the variables, the parameter's box -/
structure Wp (b g : Nat) (t : TypeId) (cs : Array Value) (w W : World) (l : List UInt8) : Prop where
 bd : Bd W b l
 kp : Kp b w W
 lib : LibQ b W
 box : Blk W g t cs
 gb : b < g
 tn : t ≠ uT
 sz : b < w.heap.size
end
section
open Go.RowKit FracM
abbrev VStr (x : ByteArray) (e : Ending) (_ : World) : Prop := e = .returned (.string x)
def lastLe (l : List ByteArray) (x : ByteArray) : Bool := match l.getLast? with | none => false | some p => leS x p
set_option maxRecDepth 100000 in
set_option maxHeartbeats 2000000 in
theorem pby_any (g : Nat) (en : Int) (ts : List Tok) (w : World) (h : PS w g en ts) (bv : Value) (l : List ByteArray) (P : Nat → Nat → Prop) (hl : SeqP w P 1 bv l.length (l.map Value.string)) :
  Calls Tryz.prog 153 #[.pointer (some ⟨g, 0, none⟩), bv] w (RetX g en w (byM en l ts) VStr) := by
 obtain ⟨A, n, rfl, hn⟩ := hl.form
 by_cases ht : kindT ts 0 = true
 ·obtain ⟨t, r, rfl⟩ := kindT_cons ht
  by_cases h8 : 8 ≤ l.length
  ·have hm : byM en l (t :: r) = bad en (t :: r) 4 := by unfold byM; rw [if_pos ht, if_pos h8]
   have h8' : (8 : Int) ≤ (l.length : Int) := by omega
   rw [hm]
   clear hm
   go_enter Tryz.func153, Tryz.ntmps153
   go_wp2_with fail
   refine (pkind_any g en 0 _ w h).mono ?_
   rintro e w1 ⟨rfl, rfl⟩
   rw [ht]
   go_wp2_with fail
   refine (pfail_any g en 4 _ _ h).mono ?_
   rintro e w1 ⟨rfl, rfl⟩
   go_wp2_with fail
   exact ⟨rfl, Only.of_below (Below.refl _ _), rfl⟩
  ·have h8' : ¬ (8 : Int) ≤ (l.length : Int) := by omega
   obtain ⟨b, off, c, hb, hlt, hne, h1, h2, t0, t1, t2, t3, hr⟩ := h.cons
   obtain ⟨c0, c1⟩ := hb.c2
   have hz : (0 : Int) < ((r.length + 1 : Nat) : Int) := by omega
   have hm : byM en l (t :: r) = if lastLe l (bsL t.text) then bad en (t :: r) 8 else .ok (bsL t.text, r) := by unfold byM lastLe; rw [if_pos ht, if_neg h8]; rfl
   have hfd := tok_f1 (.int .i64 t.kind) (.string (bsL t.text)) (.int .i64 t.n) (.int .i64 (t.off : Int))
   rw [hm]
   clear hm hb hr
   rcases Nat.eq_zero_or_pos l.length with h0 | h0
   ·obtain rfl : l = [] := List.eq_nil_of_length_eq_zero h0
    rw [if_neg (by simp [lastLe])]
    go_enter Tryz.func153, Tryz.ntmps153
    go_upto_region 5 with (go_at_call 137; refine (pkind_any g en 0 _ w h).mono ?_; rintro e w1 ⟨rfl, rfl⟩; rw [ht])
    go_quiet (fail)
    go_wp2_with fail
    refine (ptake_any g en t r _ (h.drewN nq)).mono ?_
    rintro e w1 ⟨rfl, hp, ho⟩
    have HP := Box.mk (And.intro hp ho)
    clear hp ho c0 c1 t0 t1 t2 t3 hz ht h h1 h2 hlt hne
    go_wp2_with fail
    go_ret
    exact ⟨(Only.of_below (below_drewN w nq)).trans HP.out.2, HP.out.1, rfl⟩
   ·obtain ⟨k, hk⟩ : ∃ k, l.length = k + 1 := ⟨l.length - 1, by omega⟩
    obtain ⟨y, hy⟩ : ∃ y, l[k]? = some y := ⟨l[k]'(by omega), List.getElem?_eq_getElem _⟩
    obtain ⟨b', off', rfl, hb', m1⟩ := hl.at1 k (.string y) (by simp [hy])
    have HL : Box (lastLe l (bsL t.text) = leS (bsL t.text) y) := ⟨by unfold lastLe; rw [List.getLast?_eq_getElem?, hk, Nat.add_sub_cancel, hy]⟩
    rw [HL.out]
    rw [hk] at h8' ⊢
    have hj : 0 < ((k + 1 : Nat) : Int) := by omega
    have hj1 : IntKind.i64.wrap (((k + 1 : Nat) : Int) - 1) = (k : Int) := by rw [show ((k + 1 : Nat) : Int) - 1 = (k : Int) by omega]; exact W64_in (by omega) (by omega)
    have hj2 : (k : Int) < ((k + 1 : Nat) : Int) := by omega
    clear hl hy h0 hk h8 HL
    cases hq : leS (bsL t.text) y
    ·have q : (Op.bytesLess (bsL t.text).toList y.toList || (bsL t.text).toList == y.toList) = false := hq
     rw [if_neg Bool.false_ne_true]
     clear hq
     go_enter Tryz.func153, Tryz.ntmps153
     go_upto_region 5 with (go_at_call 137; refine (pkind_any g en 0 _ w h).mono ?_; rintro e w1 ⟨rfl, rfl⟩; rw [ht])
     go_quiet (fail)
     have hps := h.drewN nq
     have hon : Only g w (w.drewN nq) := Only.of_below (below_drewN w nq)
     clear h c0 c1 t0 t1 t2 t3 m1
     generalize w.drewN nq = W at *
     go_wp2_with fail
     refine (ptake_any g en t r _ hps).mono ?_
     rintro e w1 ⟨rfl, hp, ho⟩
     have HP := Box.mk (And.intro hp (hon.trans ho))
     clear hp ho hz ht hps hon h1 h2 hlt hne
     go_wp2_with fail
     go_ret
     exact ⟨HP.out.2, HP.out.1, rfl⟩
    ·have q : (Op.bytesLess (bsL t.text).toList y.toList || (bsL t.text).toList == y.toList) = true := hq
     rw [if_pos rfl]
     clear hq
     go_enter Tryz.func153, Tryz.ntmps153
     go_upto_region 5 with (go_at_call 137; refine (pkind_any g en 0 _ w h).mono ?_; rintro e w1 ⟨rfl, rfl⟩; rw [ht])
     go_quiet (fail)
     have hps := h.drewN nq
     have hon : Only g w (w.drewN nq) := Only.of_below (below_drewN w nq)
     clear h c0 c1 t0 t1 t2 t3 m1
     generalize w.drewN nq = W at *
     go_wp2_with fail
     refine (pfail_any g en 8 _ _ hps).mono ?_
     rintro e w1 ⟨rfl, rfl⟩
     go_wp2_with fail
     exact ⟨rfl, hon, rfl⟩
 ·have hm : byM en l ts = bad en ts 2 := by unfold byM; rw [if_neg ht]
  rw [hm]
  have ht2 : kindT ts 0 = false := by simpa using ht
  clear hm
  go_enter Tryz.func153, Tryz.ntmps153
  go_wp2_with fail
  refine (pkind_any g en 0 _ w h).mono ?_
  rintro e w1 ⟨rfl, rfl⟩
  rw [ht2]
  go_wp2_with fail
  refine (pfail_any g en 2 ts _ h).mono ?_
  rintro e w1 ⟨rfl, rfl⟩
  go_wp2_with fail
  exact ⟨rfl, Only.of_below (Below.refl _ _), rfl⟩
end
section
open Go.RowKit FracM
end
section
open Go.RowKit FracM
end
section
open Go.Shelf Go.RowKit Go.Lib
theorem mats_one (l : List Mat) : ∀ u ∈ l.flatMap matCells, u.oneCell' = true := by
 intro u hu
 obtain ⟨m, -, hm⟩ := List.mem_flatMap.1 hu
 simp only [matCells, List.mem_cons, List.not_mem_nil, or_false] at hm
 rcases hm with rfl | rfl | rfl <;> rfl
theorem strs_one (l : List ByteArray) : ∀ u ∈ l.map Value.string, u.oneCell' = true := by
 intro u hu
 obtain ⟨m, -, rfl⟩ := List.mem_map.1 hu
 rfl
def cloneM_ren : Ren := ⟨fun | 41 => 42 | n => n, fun | 22 => 29 | 23 => 86 | 4 => 4 | n => n, fun | n => n⟩
theorem cloneM_lays : SlLaysE0.n41 Tryz.prog cloneM_ren := {
 mixed := by kernel_rfl
 f41 := ⟨Tryz.f42.name, by decide, Tryz.func42.trans (congrArg some (by kernel_rfl))⟩
 t4 := Tryz.underlying4
 a4 := Tryz.isAgg4
 z4 := Tryz.sizeOf4
 v4 := Tryz.zeroValue4
 t22 := Tryz.underlying29
 a22 := Tryz.isAgg29
 z22 := Tryz.sizeOf29
 v22 := Tryz.zeroValue29 }
def cloneS_ren : Ren := ⟨fun | 41 => 43 | n => n, fun | 22 => 30 | 23 => 9 | 4 => 4 | n => n, fun | n => n⟩
theorem cloneS_lays : SlLaysE0.n41 Tryz.prog cloneS_ren := {
 mixed := by kernel_rfl
 f41 := ⟨Tryz.f43.name, by decide, Tryz.func43.trans (congrArg some (by kernel_rfl))⟩
 t4 := Tryz.underlying4
 a4 := Tryz.isAgg4
 z4 := Tryz.sizeOf4
 v4 := Tryz.zeroValue4
 t22 := Tryz.underlying30
 a22 := Tryz.isAgg30
 z22 := Tryz.sizeOf30
 v22 := Tryz.zeroValue30 }
def cloneE_ren : Ren := ⟨fun | 41 => 86 | n => n, fun | 22 => 31 | 23 => 33 | 4 => 4 | n => n, fun | n => n⟩
theorem cloneE_lays : SlLaysE0.n41 Tryz.prog cloneE_ren := {
 mixed := by kernel_rfl
 f41 := ⟨Tryz.f86.name, by decide, Tryz.func86.trans (congrArg some (by kernel_rfl))⟩
 t4 := Tryz.underlying4
 a4 := Tryz.isAgg4
 z4 := Tryz.sizeOf4
 v4 := Tryz.zeroValue4
 t22 := Tryz.underlying31
 a22 := Tryz.isAgg31
 z22 := Tryz.sizeOf31
 v22 := Tryz.zeroValue31 }
end
end Go.Proofs.YtkdojgkiclndfaaGreatDoor
