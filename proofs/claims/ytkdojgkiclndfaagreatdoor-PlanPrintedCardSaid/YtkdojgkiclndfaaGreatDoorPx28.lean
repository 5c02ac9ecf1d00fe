/- Contracts, packed: Jd. -/
import Derived.Test.YtkdojgkiclndfaaGreatDoorPx24
import Derived.Deep.RegionHeld3
import Derived.Deep.CutBlock
import Derived.Deep.DeepCutAuto
set_option linter.unusedVariables false
set_option linter.unusedSimpArgs false
namespace Go.Proofs.YtkdojgkiclndfaaGreatDoor
section
open Go.RowKit FracM
abbrev exT : TypeId := 33
abbrev mtT : TypeId := 86
/-- a writer of a node under way -/
structure Wt (b : Nat) (P : Nat → Nat → Prop) (d : Nd) (ks : List Tree) (mv bv kv : Value) (w W : World) (l : List UInt8) : Prop where
 wp : Wp b w.heap.size exT (ndC d mv bv kv) w W l
 tr : TreeAt W P (.node d ks) (mv, bv, kv)
 hP : ∀ k e, P k e → k < b
theorem Wt.start {b : Nat} {P : Nat → Nat → Prop} {d : Nd} {ks : List Tree} {mv bv kv : Value} {w : World} {l : List UInt8} (h : Bd w b l) (hl : LibQ b w) (hT : TreeAt w P (.node d ks) (mv, bv, kv)) (hP : ∀ k e, P k e → k < b) : Wt b P d ks mv bv kv w (w.alloc (.cells (ndC d mv bv kv) exT)) l :=
 ⟨Wp.start h hl (by decide), hT.belo (bel1 _ _), hP⟩
theorem Wt.below {b : Nat} {P : Nat → Nat → Prop} {d : Nd} {ks : List Tree} {mv bv kv : Value} {w W W' : World} {l : List UInt8} (h : Wt b P d ks mv bv kv w W l) (hb : Below W.heap.size W W') : Wt b P d ks mv bv kv w W' l :=
 ⟨h.wp.below hb, h.tr.belo hb, h.hP⟩
theorem Wt.wrote {b : Nat} {P : Nat → Nat → Prop} {d : Nd} {ks : List Tree} {mv bv kv : Value} {w W W' : World} {l l' : List UInt8} (h : Wt b P d ks mv bv kv w W l) (hd : Bd W' b l') (hk : Kp b W W') : Wt b P d ks mv bv kv w W' l' :=
 ⟨h.wp.wrote hd hk, h.tr.keep (Agree.of_lt hk.below h.hP), h.hP⟩
theorem Wt.c {b : Nat} {P : Nat → Nat → Prop} {d : Nd} {ks : List Tree} {mv bv kv : Value} {w W : World} {l : List UInt8} (h : Wt b P d ks mv bv kv w W l) : At11 W w.heap.size 0 d mv bv kv := blk11 h.wp.box
theorem Wt.drew {b : Nat} {P : Nat → Nat → Prop} {d : Nd} {ks : List Tree} {mv bv kv : Value} {w W : World} {l : List UInt8} (h : Wt b P d ks mv bv kv w W l) : Wt b P d ks mv bv kv w W.drew l := h.below (below_drewN W 1)
theorem Wt.fin {b : Nat} {P : Nat → Nat → Prop} {d : Nd} {ks : List Tree} {mv bv kv : Value} {w W : World} {l : List UInt8} {v : Value} (h : Wt b P d ks mv bv kv w W l) : RetBd b l v w (.returned v) W := h.wp.fin
theorem Wt.kb {b g : Nat} {P : Nat → Nat → Prop} {d : Nd} {ks : List Tree} {mv bv kv : Value} {t : TypeId} {cs : Array Value} {w W W' : World} {l : List UInt8} (h : Wt b P d ks mv bv kv w W l) (hk : Kp b W W') (hg : Blk W g t cs) (hn : b < g) (ht : t ≠ uT) : Blk W' g t cs := hk.blk hg (by omega) ht
/-- the matchers so far -/
def matsP : List Mat → List UInt8
 | [] => []
 | m :: ms => 123 :: (matL m ++ ms.flatMap fun x => 44 :: matL x)
theorem matsR_eq (ms : List Mat) : matsR ms = (ms.flatMap fun x => 44 :: matL x) ++ [125] := by
 induction ms with
 | nil => rfl
 | cons m ms ih => rw [matsR, ih]; simp
theorem matsL_cons {ms : List Mat} (h : ms ≠ []) : matsL ms = matsP ms ++ [125] := by
 cases ms with
 | nil => exact absurd rfl h
 | cons m ms => rw [matsL, matsP, matsR_eq]; simp
theorem matsP_snoc (ms : List Mat) (m : Mat) : matsP (ms ++ [m]) = matsP ms ++ ((if ms.length = 0 then 123 else 44) :: matL m) := by
 cases ms with
 | nil => simp [matsP]
 | cons x ms => simp [matsP]
theorem matsP_take (ms : List Mat) (k : Nat) (m : Mat) (h : ms[k]? = some m) : matsP (ms.take (k + 1)) = matsP (ms.take k) ++ ((if k = 0 then 123 else 44) :: matL m) := by
 have hk := (List.getElem?_eq_some_iff.1 h).1
 rw [List.take_add_one, h, Option.toList_some, matsP_snoc, List.length_take]
 congr 2
 rw [Nat.min_eq_left (by omega)]
theorem matsP_le (ms : List Mat) (k : Nat) : (matsP (ms.take k)).length ≤ (matsL ms).length := by
 induction k with
 | zero => simp [matsP]
 | succ n _ =>
  by_cases hms : ms = []
  ·subst hms; simp [matsP]
  rw [matsL_cons hms]
  cases ms with
  | nil => exact absurd rfl hms
  | cons m ms =>
   simp only [List.take_succ_cons, matsP, List.length_cons, List.length_append, List.length_nil]
   have : ((ms.take n).flatMap fun x => 44 :: matL x).length ≤ (ms.flatMap fun x => 44 :: matL x).length := by
    conv => rhs; rw [← List.take_append_drop n ms]
    rw [List.flatMap_append, List.length_append]; omega
   omega
theorem lst_app (a c : ByteArray) : (a ++ c).data.toList = a.data.toList ++ c.data.toList := by simp [ByteArray.data_append]
theorem symAt {w : World} (h : LibP w) (k : Nat) (hk : k < 3) : w.cell? ⟨1, k, none⟩ = some (.string (bsL (matchT.getD k []))) := by
 refine h.mat.2 k _ ?_
 rw [List.getD_eq_getElem?_getD, List.getElem?_eq_getElem (show k < matchT.length from hk)]; rfl
theorem funAt {w : World} (h : LibP w) (k : Nat) (hk : k < 8) : w.cell? ⟨2, k, none⟩ = some (.string (bsL (funcsT.getD k []))) := by
 refine h.fn.2 k _ ?_
 rw [List.getD_eq_getElem?_getD, List.getElem?_eq_getElem (show k < funcsT.length from hk)]; rfl
theorem oprAt {w : World} (h : LibP w) (k : Nat) (hk : k < 4) : w.cell? ⟨0, k, none⟩ = some (.string (bsL (opersT.getD k []))) := by
 refine h.opr.2 k _ ?_
 rw [List.getD_eq_getElem?_getD, List.getElem?_eq_getElem (show k < opersT.length from hk)]; rfl
theorem grpAt {w : World} (h : LibP w) (k : Nat) (hk : k < 5) : w.cell? ⟨3, k, none⟩ = some (.string (bsL (groupsT.getD k []))) := by
 refine h.grp.2 k _ ?_
 rw [List.getD_eq_getElem?_getD, List.getElem?_eq_getElem (show k < groupsT.length from hk)]; rfl
theorem symSz (k : Nat) : (matchT.getD k []).length ≤ 2 := by
 rw [List.getD_eq_getElem?_getD]
 match k with
 | 0 => decide
 | 1 => decide
 | 2 => decide
 | n + 3 => simp [matchT]
theorem funSz (k : Nat) : (funcsT.getD k []).length ≤ 10 := by
 rw [List.getD_eq_getElem?_getD]
 match k with
 | 0 => decide
 | 1 => decide
 | 2 => decide
 | 3 => decide
 | 4 => decide
 | 5 => decide
 | 6 => decide
 | 7 => decide
 | n + 8 => simp [funcsT]
set_option maxHeartbeats 4000000 in
set_option maxRecDepth 100000 in
theorem psel_any (b : Nat) (l : List UInt8) (d : Nd) (ks : List Tree) (P : Nat → Nat → Prop) (w : World) (mv bv kv : Value) (hT : TreeAt w P (.node d ks) (mv, bv, kv)) (hP : ∀ k e, P k e → k < b) (h : Bd w b l) (hl : LibQ b w)
  (hfn : 0 ≤ d.fn ∧ d.fn ≤ 7) (hms : ∀ m ∈ d.ms, 0 ≤ m.2.1 ∧ m.2.1 ≤ 2) (hlen : l.length + (selL d).length ≤ 1000000000) :
  Calls Tryz.prog 66 #[.pointer (some ⟨b, 0, none⟩), .agg (ndC d mv bv kv)] w (RetBd b (l ++ selL d) (.tuple #[]) w) := by
 have HN := Box.mk (Wt.start h hl hT hP)
 obtain ⟨A1, n1, rfl, l1⟩ := hT.nod.ms.form
 have HO := Box.mk hT.nod.ok
 have HL := Box.mk hlen
 have HMS := Box.mk hms
 obtain ⟨fn, hfe⟩ : ∃ k : Nat, d.fn = k := ⟨d.fn.toNat, by omega⟩
 have HFN : Box (d.fn = (fn : Int) ∧ fn < 8) := ⟨hfe, by omega⟩
 clear hT h hl hlen hms hfe hfn
 have HX : Box (l.length + (d.name.data.toList.length + ((matsL d.ms).length + ((funL d.fn d.win d.k).length + (offL d.off).length))) ≤ 1000000000) := ⟨by have := HL.out; unfold selL at this; simpa [List.length_append] using this⟩
 go_enter Tryz.func66, Tryz.ntmps66
 go_upto_region 1 with (fail)
 generalize w.alloc (.cells (ndC d _ _ _) exT) = W0 at HN ⊢
 obtain ⟨c0, c1, c2, c3, c4, c5, c6, c7, c8, c9, c10⟩ := HN.out.c
 simp only [Nat.zero_add] at c7 c8
 clear c0 c1 c2 c3 c4 c5 c6 c9 c10
 go_wp2_with fail
 refine (bstr_any b l d.name _ HN.out.wp.bd (by have := HX.out; have h2 : d.name.data.toList.length = d.name.size := data_size _; omega)).mono ?_
 rintro e w1 ⟨rfl, hd, hk⟩
 have HN1 := Box.mk (HN.out.wrote hd hk)
 clear HN hd hk c7 c8
 obtain ⟨c0, c1, c2, c3, c4, c5, c6, c7, c8, c9, c10⟩ := HN1.out.c
 simp only [Nat.zero_add] at c8
 clear c0 c1 c2 c3 c4 c5 c6 c7 c9 c10
 go_wp2_with fail
 go_loopw [13] (fun v wr => ∃ k : Nat, k ≤ d.ms.length ∧ v = .int .i64 (k : Nat) ∧ Wt b P d ks (.slice A1 d.ms.length n1) bv kv w wr ((l ++ d.name.data.toList) ++ matsP (d.ms.take k))) (fun v _ => d.ms.length - (intOf v).toNat)
 case atStart => exact ⟨0, by omega, rfl, by simpa [matsP] using HN1.out⟩
 case round =>
  clear HN1 c8
  obtain ⟨k, hk, rfl, hN⟩ := hrel
  have HN := Box.mk hN; clear hN
  by_cases hlt : k < d.ms.length
  ·obtain ⟨x, hx⟩ : ∃ x, d.ms[k]? = some x := ⟨d.ms[k], List.getElem?_eq_getElem _⟩
   obtain ⟨g, off, rfl, hb, m0, m1, m2⟩ := Mats.at_ (w := wr) (base := wr.heap.size) (HN.out.tr.nod.ms.seq) k x hx
   have hk3 := HMS.out x (List.mem_of_getElem? hx)
   have HTK := Box.mk (matsP_take d.ms k x hx)
   have HLE := Box.mk (matsP_le d.ms (k + 1))
   obtain ⟨x0, x1, x2⟩ := x
   simp only at hk3 m1
   obtain ⟨kk, rfl⟩ : ∃ q : Nat, x1 = q := ⟨x1.toNat, by omega⟩
   have hkk : kk < 3 := by omega
   clear hx
   have HZ : Box (l.length + (d.name.data.toList.length + ((matsP (d.ms.take k)).length + (1 + (x0.data.toList.length + ((matchT.getD kk []).length + (x2.data.toList.length + 2)))))) ≤ 1000000000) := ⟨by
    have h1 := HX.out; have h2 := HLE.out; rw [HTK.out] at h2
    unfold matL at h2
    simp only [List.length_append, List.length_cons, List.length_nil, Int.toNat_natCast] at h2
    omega⟩
   have hlt2 : (k : Int) < (d.ms.length : Int) := by omega
   clear HLE
   have HM0 : Box (Wt b P d ks (.slice (some ⟨g, off, none⟩) d.ms.length n1) bv kv w (wr.alloc (.cells #[.string x0, .int .i64 (kk : Int), .string x2] mtT)) ((l ++ d.name.data.toList) ++ matsP (d.ms.take k)) ∧ Blk (wr.alloc (.cells #[.string x0, .int .i64 (kk : Int), .string x2] mtT)) wr.heap.size mtT #[.string x0, .int .i64 (kk : Int), .string x2] ∧ b < wr.heap.size) := ⟨HN.out.below (bel1 _ _), Blk.new _ _ _, HN.out.wp.bd.lt⟩
   go_upto_region 5 with (fail)
   generalize wr.alloc (.cells #[.string x0, .int .i64 (kk : Int), .string x2] mtT) = w2 at HM0 ⊢
   generalize wr.heap.size = mb at *
   clear HN m0 m1 m2 hb
   obtain ⟨q, hq⟩ : ∃ q : Bool, ((k : Int) == 0) = q := ⟨_, rfl⟩
   go_upto_if 19 with (fail)
   have HK0 : Box (q = decide (k = 0)) := ⟨by rw [← hq]; by_cases h0 : k = 0 <;> simp [h0]⟩
   clear hq
   go_cut [] (fun wx => Box (Wt b P d ks (.slice (some ⟨g, off, none⟩) d.ms.length n1) bv kv w wx (((l ++ d.name.data.toList) ++ matsP (d.ms.take k)) ++ [if k = 0 then 123 else 44]) ∧ Blk wx mb mtT #[.string x0, .int .i64 (kk : Int), .string x2]))
   case first =>
    cases q
    ·have HK1 : Box (¬ k = 0) := ⟨by simpa using HK0.out⟩
     go_wp2_with fail
     refine (bbyte_any b _ 44 44 _ HM0.out.1.wp.bd rfl (by have := HZ.out; simp only [List.length_append]; omega)).mono ?_
     rintro e w3 ⟨rfl, hd, hk2⟩
     have S3 : Box (Wt b P d ks (.slice (some ⟨g, off, none⟩) d.ms.length n1) bv kv w w3 (((l ++ d.name.data.toList) ++ matsP (d.ms.take k)) ++ [if k = 0 then 123 else 44]) ∧ Blk w3 mb mtT #[.string x0, .int .i64 (kk : Int), .string x2]) := ⟨by rw [if_neg HK1.out]; exact HM0.out.1.wrote hd hk2, HM0.out.1.kb hk2 HM0.out.2.1 HM0.out.2.2 (by decide)⟩
     clear hd hk2
     go_wp2_with fail
     go_meet
     exact S3
    ·have HK1 : Box (k = 0) := ⟨by simpa using HK0.out.symm⟩
     go_wp2_with fail
     refine (bbyte_any b _ 123 123 _ HM0.out.1.wp.bd rfl (by have := HZ.out; simp only [List.length_append]; omega)).mono ?_
     rintro e w3 ⟨rfl, hd, hk2⟩
     have S3 : Box (Wt b P d ks (.slice (some ⟨g, off, none⟩) d.ms.length n1) bv kv w w3 (((l ++ d.name.data.toList) ++ matsP (d.ms.take k)) ++ [if k = 0 then 123 else 44]) ∧ Blk w3 mb mtT #[.string x0, .int .i64 (kk : Int), .string x2]) := ⟨by rw [if_pos HK1.out]; exact HM0.out.1.wrote hd hk2, HM0.out.1.kb hk2 HM0.out.2.1 HM0.out.2.2 (by decide)⟩
     clear hd hk2
     go_wp2_with fail
     go_meet
     exact S3
   case rest =>
    have HB := Box.mk HM0.out.2.2
    clear HM0
    rename World => wd
    have S0 := hcut; clear hcut
    obtain ⟨m0, m1, m2⟩ := S0.out.2.c3
    go_wp2_with fail
    refine (bstr_any b _ x0 _ S0.out.1.wp.bd (by have := HZ.out; have h2 := data_size x0; simp only [List.length_append, List.length_cons, List.length_nil]; omega)).mono ?_
    rintro e w3 ⟨rfl, hd, hk2⟩
    have S1 : Box (Wt b P d ks (.slice (some ⟨g, off, none⟩) d.ms.length n1) bv kv w w3 ((((l ++ d.name.data.toList) ++ matsP (d.ms.take k)) ++ [if k = 0 then 123 else 44]) ++ x0.data.toList) ∧ Blk w3 mb mtT #[.string x0, .int .i64 (kk : Int), .string x2]) := ⟨S0.out.1.wrote hd hk2, S0.out.1.kb hk2 S0.out.2 HB.out (by decide)⟩
    clear hd hk2 m0 m1 m2 S0
    obtain ⟨m0, m1, m2⟩ := S1.out.2.c3
    have y1 := symAt S1.out.1.wp.lib.here kk hkk
    have hkk2 : (kk : Int) < 3 := by omega
    have hkk0 : (0 : Int) ≤ (kk : Int) := by omega
    go_wp2_with fail
    refine (bstr_any b _ (bsL (matchT.getD kk [])) _ S1.out.1.wp.bd (by have := HZ.out; rw [bsL_sz]; simp only [List.length_append, List.length_cons, List.length_nil]; omega)).mono ?_
    rintro e w4 ⟨rfl, hd, hk2⟩
    rw [bsL_lst] at hd
    have S2 : Box (Wt b P d ks (.slice (some ⟨g, off, none⟩) d.ms.length n1) bv kv w w4 (((((l ++ d.name.data.toList) ++ matsP (d.ms.take k)) ++ [if k = 0 then 123 else 44]) ++ x0.data.toList) ++ matchT.getD kk []) ∧ Blk w4 mb mtT #[.string x0, .int .i64 (kk : Int), .string x2]) := ⟨S1.out.1.wrote hd hk2, S1.out.1.kb hk2 S1.out.2 HB.out (by decide)⟩
    clear hd hk2 m0 m1 m2 y1 S1
    obtain ⟨m0, m1, m2⟩ := S2.out.2.c3
    have a1 := fun W => run_string_add_sum (P := Tryz.prog) (w := W) ⟨#[34]⟩ x2 (by have := HZ.out; have h2 := data_size x2; rw [show (⟨#[34]⟩ : ByteArray).size = 1 from rfl]; omega)
    have a2 := fun W => run_string_add_sum (P := Tryz.prog) (w := W) (⟨#[34]⟩ ++ x2) ⟨#[34]⟩ (by have := HZ.out; have h2 := data_size x2; rw [ByteArray.size_append, show (⟨#[34]⟩ : ByteArray).size = 1 from rfl]; omega)
    go_wp2_with fail
    have HZL : Box ((({ data := #[34] } : ByteArray) ++ x2 ++ { data := #[34] }).data.toList = 34 :: (x2.data.toList ++ [34])) := ⟨by rw [lst_app, lst_app]; rfl⟩
    clear a1 a2
    generalize ({ data := #[34] } : ByteArray) ++ x2 ++ { data := #[34] } = z at HZL ⊢
    refine (bstr_any b _ z _ S2.out.1.wp.bd (by have := HZ.out; have h2 := data_size z; rw [HZL.out] at h2; simp only [List.length_append, List.length_cons, List.length_nil] at h2 ⊢; omega)).mono ?_
    rintro e w5 ⟨rfl, hd, hk2⟩
    have HE : (((((l ++ d.name.data.toList) ++ matsP (d.ms.take k)) ++ [if k = 0 then 123 else 44]) ++ x0.data.toList) ++ matchT.getD kk []) ++ z.data.toList = (l ++ d.name.data.toList) ++ matsP (d.ms.take (k + 1)) := by
     rw [HTK.out, HZL.out]
     unfold matL
     simp
    rw [HE] at hd
    have S3 := Box.mk (S2.out.1.wrote hd hk2)
    clear hd hk2 HE m0 m1 m2 S2
    go_wp2_with fail
    go_roundw
    case rel => exact ⟨k + 1, by omega, by go_num, S3.out⟩
    case measure => simp [intOf]; omega
  ·have hke : k = d.ms.length := by omega
   have hlt2 : ¬ (k : Int) < (d.ms.length : Int) := by omega
   have HNM := Box.mk (show Wt b P d ks (.slice A1 d.ms.length n1) bv kv w wr ((l ++ d.name.data.toList) ++ matsP d.ms) by have h := HN.out; rw [hke, List.take_of_length_le (Nat.le_refl _)] at h; exact h)
   clear HN hke
   obtain ⟨c0, c1, c2, c3, c4, c5, c6, c7, c8, c9, c10⟩ := HNM.out.c
   simp only [Nat.zero_add] at c1 c2 c3 c4 c8
   clear c0 c5 c6 c7 c9 c10
   rw [HFN.out.1] at c1
   obtain ⟨q, hq⟩ : ∃ q : Bool, decide (0 < d.ms.length) = q := ⟨_, rfl⟩
   go_upto_region 12 with (fail)
   go_upto_if 44 with (fail)
   have HQ : Box (q = decide (0 < d.ms.length)) := ⟨hq.symm⟩
   clear hq c1 c2 c3 c4 c8
   go_cut [] (fun wx => Box (Wt b P d ks (.slice A1 d.ms.length n1) bv kv w wx ((l ++ d.name.data.toList) ++ matsL d.ms)))
   case first =>
    cases q
    ·have HE : Box (d.ms = []) := ⟨List.eq_nil_of_length_eq_zero (by have := of_decide_eq_false HQ.out.symm; omega)⟩
     go_wp2_with fail
     go_meet
     exact ⟨by have h := HNM.out; rw [show matsP d.ms = matsL d.ms by rw [HE.out]; rfl] at h; exact h⟩
    ·have HE : Box (d.ms ≠ []) := ⟨fun h => by have := of_decide_eq_true HQ.out.symm; rw [h] at this; simp at this⟩
     go_wp2_with fail
     refine (bbyte_any b _ 125 125 _ HNM.out.wp.bd rfl (by have h1 := HX.out; rw [matsL_cons HE.out] at h1; simp only [List.length_append, List.length_cons, List.length_nil] at h1 ⊢; omega)).mono ?_
     rintro e w3 ⟨rfl, hd, hk2⟩
     rw [List.append_assoc, ← matsL_cons HE.out] at hd
     have S3 : Box (Wt b P d ks (.slice A1 d.ms.length n1) bv kv w w3 ((l ++ d.name.data.toList) ++ matsL d.ms)) := ⟨HNM.out.wrote hd hk2⟩
     clear hd hk2
     go_wp2_with fail
     go_meet
     exact S3
   rename World => wd1
   have HN1 := hcut; clear hcut HNM HQ
   obtain ⟨c0, c1, c2, c3, c4, c5, c6, c7, c8, c9, c10⟩ := HN1.out.c
   simp only [Nat.zero_add] at c1 c2 c3 c4
   clear c0 c5 c6 c7 c8 c9 c10
   rw [HFN.out.1] at c1
   obtain ⟨q2, hq2⟩ : ∃ q : Bool, ((fn : Int) != 0) = q := ⟨_, rfl⟩
   go_upto_region 14 with (fail)
   go_upto_if 49 with (fail)
   have HQ : Box (q2 = decide (¬ fn = 0)) := ⟨by rw [← hq2]; by_cases h0 : fn = 0 <;> simp [h0]⟩
   clear hq2 c1 c2 c3 c4
   have HWIN := HO.out.ints.2.2.1
   unfold I64 at HWIN
   go_cut [] (fun wx => Box (Wt b P d ks (.slice A1 d.ms.length n1) bv kv w wx (((l ++ d.name.data.toList) ++ matsL d.ms) ++ funL d.fn d.win d.k)))
   case first =>
    cases q2
    ·have HE : Box (funL d.fn d.win d.k = []) := ⟨by unfold funL; rw [HFN.out.1, if_pos (by have := of_decide_eq_false HQ.out.symm; omega)]⟩
     go_wp2_with fail
     go_meet
     exact ⟨by rw [HE.out, List.append_nil]; exact HN1.out⟩
    ·have HF0 : Box (¬ fn = 0) := ⟨of_decide_eq_true HQ.out.symm⟩
     obtain ⟨c0, c1, c2, c3, c4, c5, c6, c7, c8, c9, c10⟩ := HN1.out.c
     simp only [Nat.zero_add] at c1 c2
     clear c0 c3 c4 c5 c6 c7 c8 c9 c10
     rw [HFN.out.1] at c1
     have y1 := funAt HN1.out.wp.lib.here fn HFN.out.2
     have hz := funSz fn
     have hi := itoa_sz d.win HWIN.1 HWIN.2
     obtain ⟨fb, hfb⟩ : ∃ x : ByteArray, x = bsL (funcsT.getD fn []) := ⟨_, rfl⟩
     have HFB : Box (fb.data.toList = funcsT.getD fn []) := ⟨by rw [hfb, bsL_lst]⟩
     have HFB2 : Box (bsL (funcsT.getD fn []) = fb) := ⟨hfb.symm⟩
     have hfs : fb.size ≤ 10 := by rw [hfb, bsL_sz]; exact hz
     rw [← hfb] at y1
     obtain ⟨ib, hib⟩ : ∃ x : ByteArray, x = bsL (Lib.itoa d.win) := ⟨_, rfl⟩
     have HIB : Box (bsL (Lib.itoa d.win) = ib) := ⟨hib.symm⟩
     have his : ib.size ≤ 21 := by rw [hib, bsL_sz]; exact hi
     have hfn2 : (fn : Int) < 8 := by have := HFN.out.2; omega
     have hfn0 : (0 : Int) ≤ (fn : Int) := by omega
     clear hfb hib hz hi
     have s1 : (⟨#[46]⟩ : ByteArray).size = 1 := rfl
     have s2 : (⟨#[40]⟩ : ByteArray).size = 1 := rfl
     have a1 := fun W => run_string_add_sum (P := Tryz.prog) (w := W) ⟨#[46]⟩ fb (by rw [s1]; omega)
     have a2 := fun W => run_string_add_sum (P := Tryz.prog) (w := W) (⟨#[46]⟩ ++ fb) ⟨#[40]⟩ (by rw [ByteArray.size_append, s1, s2]; omega)
     have a3 := fun W => run_string_add_sum (P := Tryz.prog) (w := W) ((⟨#[46]⟩ ++ fb) ++ ⟨#[40]⟩) ib (by rw [ByteArray.size_append, ByteArray.size_append, s1, s2]; omega)
     have HZL : Box (((({ data := #[46] } : ByteArray) ++ fb ++ { data := #[40] }) ++ ib).data.toList = (46 :: (funcsT.getD fn [] ++ (40 :: Lib.itoa d.win)))) := ⟨by rw [lst_app, lst_app, lst_app, HFB.out, ← HIB.out, bsL_lst]; simp⟩
     have HLF : Box (funL d.fn d.win d.k = (46 :: (funcsT.getD fn [] ++ (40 :: Lib.itoa d.win))) ++ ((if d.fn = 7 then 44 :: Lib.itoa d.k else []) ++ [41])) := ⟨by unfold funL; rw [if_neg (by rw [HFN.out.1]; have := HF0.out; omega), show d.fn.toNat = fn by rw [HFN.out.1]; rfl]; simp⟩
     clear s1 s2
     go_upto_region 15 with (fail)
     go_region_held3 (fun w' => w'.cell? ⟨w.heap.size, 1, none⟩ = some (.int .i64 (fn : Int)) ∧ w'.cell? ⟨w.heap.size, 2, none⟩ = some (.int .i64 d.win) ∧ w'.cell? ⟨2, fn, none⟩ = some (.string fb))
      (first | go_keep | with_reducible exact HK2.out | with_reducible exact HK3.out)
      (first
       | (go_at_call 100; refine (pitoa_any d.win _ HWIN.1 HWIN.2 (by first | exact HN1.out.wp.lib.here | exact HN1.out.drew.wp.lib.here)).mono ?_; rintro e w4 ⟨rfl, hb4⟩; rw [HIB.out]; have HN2 : Box (Wt b P d ks (.slice A1 d.ms.length n1) bv kv w w4 ((l ++ d.name.data.toList) ++ matsL d.ms)) := ⟨by first | exact HN1.out.below hb4 | exact HN1.out.drew.below hb4⟩; have HK2 : Box (w4.cell? ⟨w.heap.size, 1, none⟩ = some (.int .i64 (fn : Int)) ∧ w4.cell? ⟨w.heap.size, 2, none⟩ = some (.int .i64 d.win) ∧ w4.cell? ⟨2, fn, none⟩ = some (.string fb)) := ⟨by have h := HN2.out.c.2.1; rw [HFN.out.1] at h; simpa using h, by have h := HN2.out.c.2.2.1; simpa using h, by have h := funAt HN2.out.wp.lib.here fn HFN.out.2; rw [HFB2.out] at h; exact h⟩; clear hb4)
       | (go_at_call 70; refine (bstr_any b _ _ _ HN2.out.wp.bd ?_).mono ?_; have h1 := HX.out; rw [HLF.out, ← HZL.out] at h1; rw [← data_size]; simp only [List.length_append, List.length_cons, List.length_nil] at h1 ⊢; omega; rintro e w5 ⟨rfl, hd, hk2⟩; have HN3 : Box (Wt b P d ks (.slice A1 d.ms.length n1) bv kv w w5 (((l ++ d.name.data.toList) ++ matsL d.ms) ++ (46 :: (funcsT.getD fn [] ++ (40 :: Lib.itoa d.win))))) := ⟨by have h := HN2.out.wrote hd hk2; rw [HZL.out] at h; exact h⟩; have HK3 : Box (w5.cell? ⟨w.heap.size, 1, none⟩ = some (.int .i64 (fn : Int)) ∧ w5.cell? ⟨w.heap.size, 2, none⟩ = some (.int .i64 d.win) ∧ w5.cell? ⟨2, fn, none⟩ = some (.string fb)) := ⟨by have h := HN3.out.c.2.1; rw [HFN.out.1] at h; simpa using h, by have h := HN3.out.c.2.2.1; simpa using h, by have h := funAt HN3.out.wp.lib.here fn HFN.out.2; rw [HFB2.out] at h; exact h⟩; clear hd hk2))
     clear a1 a2 a3 y1 c1 c2 HK2 HK3
     obtain ⟨c0, c1, c2, c3, c4, c5, c6, c7, c8, c9, c10⟩ := HN3.out.c
     simp only [Nat.zero_add] at c1 c2 c3 c4
     clear c0 c2 c3 c5 c6 c7 c8 c9 c10
     rw [HFN.out.1] at c1
     have hkI := HO.out.ints.2.2.2.2.1
     unfold I64 at hkI
     by_cases h7 : fn = 7
     ·have t1 : ((fn : Int) == 7) = true := by simp [h7]
      have HL7 : Box (funL d.fn d.win d.k = (46 :: (funcsT.getD fn [] ++ (40 :: Lib.itoa d.win))) ++ ((44 :: Lib.itoa d.k) ++ [41])) := ⟨by rw [HLF.out, if_pos (by rw [HFN.out.1, h7]; rfl)]⟩
      clear h7
      obtain ⟨kb, hkb⟩ : ∃ x : ByteArray, x = bsL (Lib.itoa d.k) := ⟨_, rfl⟩
      have HKB : Box (bsL (Lib.itoa d.k) = kb) := ⟨hkb.symm⟩
      have hks : kb.size ≤ 21 := by rw [hkb, bsL_sz]; exact itoa_sz d.k hkI.1 hkI.2
      clear hkb
      have a1 := fun W => run_string_add_sum (P := Tryz.prog) (w := W) ⟨#[44]⟩ kb (by rw [show (⟨#[44]⟩ : ByteArray).size = 1 from rfl]; omega)
      have HZ2 : Box ((({ data := #[44] } : ByteArray) ++ kb).data.toList = 44 :: Lib.itoa d.k) := ⟨by rw [lst_app, ← HKB.out, bsL_lst]; rfl⟩
      go_wp2_with fail
      refine (pitoa_any d.k _ hkI.1 hkI.2 HN3.out.wp.lib.here).mono ?_
      rintro e w6 ⟨rfl, hb6⟩
      rw [HKB.out]
      have HN4 : Box (Wt b P d ks (.slice A1 d.ms.length n1) bv kv w w6 (((l ++ d.name.data.toList) ++ matsL d.ms) ++ (46 :: (funcsT.getD fn [] ++ (40 :: Lib.itoa d.win))))) := ⟨HN3.out.below hb6⟩
      clear hb6 c1 c4
      go_wp2_with fail
      clear a1
      generalize ({ data := #[44] } : ByteArray) ++ kb = z at HZ2 ⊢
      refine (bstr_any b _ z _ HN4.out.wp.bd (by have h1 := HX.out; rw [HL7.out] at h1; have h2 := data_size z; rw [HZ2.out] at h2; simp only [List.length_append, List.length_cons, List.length_nil] at h1 h2 ⊢; omega)).mono ?_
      rintro e w7 ⟨rfl, hd, hk2⟩
      rw [HZ2.out] at hd
      have HN5 : Box (Wt b P d ks (.slice A1 d.ms.length n1) bv kv w w7 ((((l ++ d.name.data.toList) ++ matsL d.ms) ++ (46 :: (funcsT.getD fn [] ++ (40 :: Lib.itoa d.win)))) ++ (44 :: Lib.itoa d.k))) := ⟨HN4.out.wrote hd hk2⟩
      clear hd hk2
      go_wp2_with fail
      refine (bbyte_any b _ 41 41 _ HN5.out.wp.bd rfl (by have h1 := HX.out; rw [HL7.out] at h1; simp only [List.length_append, List.length_cons, List.length_nil] at h1 ⊢; omega)).mono ?_
      rintro e w8 ⟨rfl, hd, hk2⟩
      have HN6 : Box (Wt b P d ks (.slice A1 d.ms.length n1) bv kv w w8 (((l ++ d.name.data.toList) ++ matsL d.ms) ++ funL d.fn d.win d.k)) := ⟨by have h := HN5.out.wrote hd hk2; rw [HL7.out]; simpa [List.append_assoc] using h⟩
      clear hd hk2
      go_wp2_with fail
      go_meet
      exact HN6
     ·have t1 : ((fn : Int) == 7) = false := by simp; omega
      have HL7 : Box (funL d.fn d.win d.k = (46 :: (funcsT.getD fn [] ++ (40 :: Lib.itoa d.win))) ++ [41]) := ⟨by rw [HLF.out, if_neg (by rw [HFN.out.1]; omega)]; rfl⟩
      clear h7
      go_wp2_with fail
      refine (bbyte_any b _ 41 41 _ HN3.out.wp.bd rfl (by have h1 := HX.out; rw [HL7.out] at h1; simp only [List.length_append, List.length_cons, List.length_nil] at h1 ⊢; omega)).mono ?_
      rintro e w8 ⟨rfl, hd, hk2⟩
      have HN6 : Box (Wt b P d ks (.slice A1 d.ms.length n1) bv kv w w8 (((l ++ d.name.data.toList) ++ matsL d.ms) ++ funL d.fn d.win d.k)) := ⟨by have h := HN3.out.wrote hd hk2; rw [HL7.out]; simpa [List.append_assoc] using h⟩
      clear hd hk2
      go_wp2_with fail
      go_meet
      exact HN6
   rename World => wd2
   have HN2 := hcut; clear hcut HN1 HQ HWIN
   obtain ⟨c0, c1, c2, c3, c4, c5, c6, c7, c8, c9, c10⟩ := HN2.out.c
   simp only [Nat.zero_add] at c1 c2 c3 c4
   clear c0 c1 c2 c4 c5 c6 c7 c8 c9 c10
   have hoI := HO.out.ints.2.2.2.1
   unfold I64 at hoI
   by_cases h0 : d.off = 0
   ·have t1 : (d.off != 0) = false := by simp [h0]
    have HE : Box (selL d = d.name.data.toList ++ (matsL d.ms ++ funL d.fn d.win d.k)) := ⟨by unfold selL offL; rw [if_pos h0, List.append_nil]⟩
    clear h0
    go_wp2_with fail
    go_end0
    rw [HE.out, ← List.append_assoc, ← List.append_assoc]
    exact HN2.out.fin
   ·have t1 : (d.off != 0) = true := by simpa using h0
    have HE : Box (selL d = d.name.data.toList ++ (matsL d.ms ++ (funL d.fn d.win d.k ++ (64 :: Lib.itoa d.off))) ∧ offL d.off = 64 :: Lib.itoa d.off) := ⟨by unfold selL offL; rw [if_neg h0], by unfold offL; rw [if_neg h0]⟩
    clear h0
    obtain ⟨kb, hkb⟩ : ∃ x : ByteArray, x = bsL (Lib.itoa d.off) := ⟨_, rfl⟩
    have HKB : Box (bsL (Lib.itoa d.off) = kb) := ⟨hkb.symm⟩
    have hks : kb.size ≤ 21 := by rw [hkb, bsL_sz]; exact itoa_sz d.off hoI.1 hoI.2
    clear hkb
    have a1 := fun W => run_string_add_sum (P := Tryz.prog) (w := W) ⟨#[64]⟩ kb (by rw [show (⟨#[64]⟩ : ByteArray).size = 1 from rfl]; omega)
    have HZ2 : Box ((({ data := #[64] } : ByteArray) ++ kb).data.toList = 64 :: Lib.itoa d.off) := ⟨by rw [lst_app, ← HKB.out, bsL_lst]; rfl⟩
    go_wp2_with fail
    refine (pitoa_any d.off _ hoI.1 hoI.2 HN2.out.wp.lib.here).mono ?_
    rintro e w6 ⟨rfl, hb6⟩
    rw [HKB.out]
    have HN4 : Box (Wt b P d ks (.slice A1 d.ms.length n1) bv kv w w6 (((l ++ d.name.data.toList) ++ matsL d.ms) ++ funL d.fn d.win d.k)) := ⟨HN2.out.below hb6⟩
    clear hb6 c3
    go_wp2_with fail
    clear a1
    generalize ({ data := #[64] } : ByteArray) ++ kb = z at HZ2 ⊢
    refine (bstr_any b _ z _ HN4.out.wp.bd (by have h1 := HX.out; rw [HE.out.2] at h1; have h2 := data_size z; rw [HZ2.out] at h2; simp only [List.length_append, List.length_cons, List.length_nil] at h1 h2 ⊢; omega)).mono ?_
    rintro e w7 ⟨rfl, hd, hk2⟩
    rw [HZ2.out] at hd
    have HN5 : Box (Wt b P d ks (.slice A1 d.ms.length n1) bv kv w w7 ((((l ++ d.name.data.toList) ++ matsL d.ms) ++ funL d.fn d.win d.k) ++ (64 :: Lib.itoa d.off))) := ⟨HN4.out.wrote hd hk2⟩
    clear hd hk2
    go_wp2_with fail
    go_end0
    rw [HE.out.1, ← List.append_assoc, ← List.append_assoc, ← List.append_assoc]
    exact HN5.out.fin
end
end Go.Proofs.YtkdojgkiclndfaaGreatDoor
