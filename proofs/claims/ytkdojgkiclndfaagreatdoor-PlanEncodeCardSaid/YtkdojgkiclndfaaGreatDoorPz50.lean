/- Contracts, packed: Bn. -/
import Derived.Test.YtkdojgkiclndfaaGreatDoorPz25
import Derived.Test.YtkdojgkiclndfaaGreatDoorPz41
import Derived.Test.YtkdojgkiclndfaaGreatDoorPz42
import Derived.Test.YtkdojgkiclndfaaGreatDoorPz49
import Derived.Lib.AtoiErrMem
set_option linter.unusedVariables false
set_option linter.unusedSimpArgs false
namespace Go.Proofs.YtkdojgkiclndfaaGreatDoor
section
open Go.RowKit FracM
theorem encI_pos (n : Int) : 0 < (encI n).length := by unfold encI; exact List.length_pos_iff.2 (uvN_ne _)
theorem encS_pos (s : ByteArray) : 0 < (encS s).length := by
 unfold encS
 rw [List.length_append]
 have := List.length_pos_iff.2 (uvN_ne s.size)
 omega
theorem encS_str (s : ByteArray) : uvN (strB s).length ++ strB s = encS s := by rw [strB_len]; rfl
theorem hdE_eq (d : Nd) (r : List Nat) : hdE (hdOf d) ++ r = ([d.kind, d.fn, d.win, d.off, d.k, d.num, d.den] : List Int).flatMap encI ++ (encS d.name ++ r) := by
 have h : hdE (hdOf d) = encI d.kind ++ (encI d.fn ++ (encI d.win ++ (encI d.off ++ (encI d.k ++ (encI d.num ++ (encI d.den ++ encS d.name)))))) := rfl
 rw [h]
 simp
theorem bytes_below (w : World) (e : TypeId) (s : ByteArray) : Below w.heap.size w (Lib.bytesWorld w e s) := Lib.bytesWorld_below w e s
theorem below_then {w w1 w2 : World} (h : Below w.heap.size w w1) (k : Below w1.heap.size w1 w2) : Below w.heap.size w w2 := bthen h k (Nat.le_refl _)
/-- Raw of a string's bytes, converted -/
theorem rrawS_any (s : ByteArray) (w : World) (hs : s.size ≤ 1000000) : Calls Tryz.prog 56 #[.slice (some ⟨w.heap.size, 0, none⟩) s.size (grownCap w s.size 0 5)] (Lib.bytesWorld w 5 s) (RetSq (encS s) (Lib.bytesWorld w 5 s)) := by
 have h := refraw_any w.heap.size 0 s.size (grownCap w s.size 0 5) (strB s) (Lib.bytesWorld w 5 s) (strB_len s).symm (conv_sq w _ s) hs
 rw [encS_str] at h
 exact h
structure WrB (w W : World) (pv : Value) (l : List Nd) (v : Value) (bs : List Nat) : Prop where
 below : Below w.heap.size w W
 pl : PlanP W (fun b _ => b < w.heap.size) pv l
 own : OwnB W w.heap.size v bs
theorem WrB.next {w W W' : World} {pv v : Value} {l : List Nd} {bs : List Nat} (h : WrB w W pv l v bs) (f : Below W.heap.size W W') : WrB w W' pv l v bs := ⟨bthen h.below f (Nat.le_refl _), h.pl.belo f, own_below h.own f⟩
theorem WrB.app {w W W' : World} {pv v9 : Value} {l : List Nd} {A : Option Addr} {n c : Nat} {L M : List Nat} (h : WrB w W pv l (.slice A n c) L) (hown9 : W'.ownsRow w.heap.size 5 1 v9 (L.length + M.length) (u8L L ++ u8L M)) (hgr : W.grownBy W' (Value.slice A n c).ownBlock) : WrB w W' pv l v9 (L ++ M) := by
 have hb : Below w.heap.size W W' := ((Below.refl _ W).mono h.below.size).grown hgr h.below.size (fun k hk => own_bkB h.own k hk)
 exact ⟨h.below.trans hb, h.pl.keep (Agree.of_lt hb fun _ _ h => h), OwnB.app hown9⟩
theorem own_ne {w : World} {B g t : Nat} {v : Value} {l : List Nat} {cs : Array Value} (h : OwnB w B v l) (hb : Blk w g t cs) (hne : t ≠ 5) : v.ownBlock ≠ some g := by
 intro he
 rcases h.2 with ⟨rfl, _⟩ | ⟨g', cap, cur, rfl, -, hg, _⟩
 ·simp [Value.ownBlock] at he
 ·simp [Value.ownBlock] at he
  subst he
  unfold Blk at hb
  rw [hb] at hg
  simp only [Option.some.injEq, Obj.cells.injEq] at hg
  exact hne hg.2.1
/-- and a block beside it -/
structure WrX (w W : World) (pv : Value) (l : List Nd) (v : Value) (bs : List Nat) (g : Nat) (t : TypeId) (cs : Array Value) : Prop where
 s : WrB w W pv l v bs
 x : Blk W g t cs
 ne : t ≠ 5
theorem WrX.next {w W W' : World} {pv v : Value} {l : List Nd} {bs : List Nat} {g : Nat} {t : TypeId} {cs : Array Value} (h : WrX w W pv l v bs g t cs) (f : Below W.heap.size W W') : WrX w W' pv l v bs g t cs := ⟨h.s.next f, h.x.below f, h.ne⟩
theorem WrX.app {w W W' : World} {pv v9 : Value} {l : List Nd} {A : Option Addr} {n c : Nat} {L M : List Nat} {g : Nat} {t : TypeId} {cs : Array Value} (h : WrX w W pv l (.slice A n c) L g t cs) (hown9 : W'.ownsRow w.heap.size 5 1 v9 (L.length + M.length) (u8L L ++ u8L M)) (hgr : W.grownBy W' (Value.slice A n c).ownBlock) : WrX w W' pv l v9 (L ++ M) g t cs :=
 ⟨h.s.app hown9 hgr, (hgr.block g h.x.lt (fun e => own_ne h.s.own h.x h.ne e.symm)).trans h.x, h.ne⟩
theorem Blk.at_ {w : World} {g : Nat} {t : TypeId} {a b c d e f g' : Int} (h : Blk w g t #[.int .i64 a, .int .i64 b, .int .i64 c, .int .i64 d, .int .i64 e, .int .i64 f, .int .i64 g']) {j : Nat} {x : Int} (hx : ([a, b, c, d, e, f, g'] : List Int)[j]? = some x) : w.cell? ⟨g, j, none⟩ = some (.int .i64 x) := by
 unfold Blk at h
 match j, hx with
 | 0, hx => simp at hx; subst hx; simp [World.cell?, h]
 | 1, hx => simp at hx; subst hx; simp [World.cell?, h]
 | 2, hx => simp at hx; subst hx; simp [World.cell?, h]
 | 3, hx => simp at hx; subst hx; simp [World.cell?, h]
 | 4, hx => simp at hx; subst hx; simp [World.cell?, h]
 | 5, hx => simp at hx; subst hx; simp [World.cell?, h]
 | 6, hx => simp at hx; subst hx; simp [World.cell?, h]
 | j + 7, hx => simp at hx
set_option maxHeartbeats 16000000 in
set_option maxRecDepth 100000 in
theorem rwrite_any (l : List Nd) (pv : Value) (w : World) (hp : PlanP w AnyP pv l) (ht : (treeM l).2 = 0) : Calls Tryz.prog 27 #[pv] w (RetSq (encPl l) w) := by
 obtain ⟨A, c, rfl, -⟩ := hp.form
 have HP : Box (PlanP w (fun b _ => b < w.heap.size) (.slice A l.length c) l) := ⟨hp.mono fun _ _ hb _ => hb⟩
 have hn200 := (plan_small ht).1
 have HSM := Box.mk (plan_small ht).2
 have HSZ := Box.mk (plan_sizes ht)
 obtain ⟨j0, hj, hy0, hy1, hy2⟩ := info_parts byInfo
 have HJ := Box.mk (And.intro hj (And.intro hy0 (And.intro hy1 hy2)))
 have hln : I64 (l.length : Nat) := by unfold I64; omega
 have hcv := fun (W : World) (s : ByteArray) => Lib.run_convert_string_bytes (P := Tryz.prog) W 9 39 5 s (u := .string) Tryz.underlying9 Tryz.underlying39 Tryz.underlying5
 have hel0 := zig10 hln
 have CQ := Box.mk (refint_any (l.length : Nat) w hln.1 hln.2)
 clear hp ht hj hy0 hy1 hy2
 go_enter Tryz.func27, Tryz.ntmps27
 go_wp2_with fail
 refine (CQ.out).mono ?_
 rintro e w1 ⟨v, rfl, hO, hb⟩
 have HS0 : Box (WrB w w1 (.slice A l.length c) l v (encI l.length)) := ⟨⟨hb, HP.out.belo hb, hO⟩⟩
 obtain ⟨b9, Eb9⟩ : ∃ b, Box (encI l.length = b) := ⟨_, ⟨rfl⟩⟩
 have L9 : b9.length ≤ 10 := by rw [← Eb9.out]; exact hel0
 rw [Eb9.out] at HS0
 clear hO hb HP CQ hel0
 obtain ⟨A9, c9, hv9⟩ := own_form HS0.out.own
 subst hv9
 go_wp2_with fail
 go_loopw [3, 4] (fun o z wr => ∃ (i : Nat) (b : List Nat), i ≤ l.length ∧ z = .int .i64 (i : Nat) ∧ b.length ≤ 10 + 1000 * i ∧ Box (b = encI l.length ++ (l.take i).flatMap encNd) ∧ ∃ (AO : Option Addr) (co : Nat), o = .slice AO b.length co ∧ Box (WrB w wr (.slice A l.length c) l o b)) (fun _ z _ => l.length - (intOf z).toNat)
 case atStart => exact ⟨0, b9, by omega, rfl, by omega, ⟨by rw [← Eb9.out]; simp⟩, _, _, rfl, HS0⟩
 case round =>
  clear HS0 Eb9 L9
  rename World => wr
  obtain ⟨i, b0, hi, rfl, L0, E0, AO0, co0, rfl, HS0⟩ := hrel
  have hz0 := HS0.out.below.size
  by_cases hlt : i < l.length
  ·have hlt2 : (i : Int) < (l.length : Int) := by omega
   obtain ⟨d, hd⟩ : ∃ d, l[i]? = some d := ⟨l[i], List.getElem?_eq_getElem _⟩
   have HD := Box.mk hd
   have HSD := Box.mk (HSZ.out d (List.mem_of_getElem? hd))
   obtain ⟨hml, hbl⟩ := HSM.out d (List.mem_of_getElem? hd)
   have HTI : Box ((l.take (i + 1)).flatMap encNd = (l.take i).flatMap encNd ++ encNd d) := ⟨by rw [List.take_add_one, hd, List.flatMap_append]; simp⟩
   clear hd
   obtain ⟨pb, po, mv0, bv0, hA, -, -, -, hxi⟩ := HS0.out.pl.at_ i d HD.out
   subst hA
   obtain ⟨i0, i1, i2, i3, i4, i5, i6⟩ := hxi.ok.ints
   have h7 : ∀ x ∈ ([d.kind, d.fn, d.win, d.off, d.k, d.num, d.den] : List Int), I64 x := by intro x hx; simp only [List.mem_cons, List.not_mem_nil, or_false] at hx; rcases hx with rfl | rfl | rfl | rfl | rfl | rfl | rfl <;> assumption
   have hmn : I64 (d.ms.length : Nat) := by unfold I64; omega
   have hbn : I64 (d.bys.length : Nat) := by unfold I64; omega
   clear i0 i1 i2 i3 i4 i5 i6 hxi
   obtain ⟨pb', po', mv0, bv0, hA, -, -, ⟨p0, p1, p2, p3, p4, p5, p6, p7, p8, p9⟩, hxi⟩ := HS0.out.pl.at_ i d HD.out
   cases hA
   obtain ⟨X1, x1, rfl, -⟩ := hxi.ms.form
   obtain ⟨X2, x2, rfl, -⟩ := hxi.bys.form
   have HX0 : Box (WrX w (wr.alloc (.cells #[.int .i64 (d.kind), .int .i64 (d.fn), .int .i64 (d.win), .int .i64 (d.off), .int .i64 (d.k), .int .i64 (d.num), .int .i64 (d.den)] 3)).drew (.slice (some ⟨pb, po, none⟩) l.length c) l (.slice AO0 b0.length co0) b0 wr.heap.size 3 #[.int .i64 (d.kind), .int .i64 (d.fn), .int .i64 (d.win), .int .i64 (d.off), .int .i64 (d.k), .int .i64 (d.num), .int .i64 (d.den)]) := ⟨(⟨HS0.out.next (bel1 _ _), Blk.new wr _ _, by decide⟩ : WrX w (wr.alloc (.cells #[.int .i64 (d.kind), .int .i64 (d.fn), .int .i64 (d.win), .int .i64 (d.off), .int .i64 (d.k), .int .i64 (d.num), .int .i64 (d.den)] 3)) (.slice (some ⟨pb, po, none⟩) l.length c) l (.slice AO0 b0.length co0) b0 wr.heap.size 3 #[.int .i64 (d.kind), .int .i64 (d.fn), .int .i64 (d.win), .int .i64 (d.off), .int .i64 (d.k), .int .i64 (d.num), .int .i64 (d.den)]).next (below_drewN _ 1)⟩
   go_upto_region 5 with (fail)
   go_region_held3 (fun w' : World => w'.cell? ⟨pb, po + i * 10, none⟩ = some (.int .i64 d.kind) ∧ w'.cell? ⟨pb, po + i * 10 + 1, none⟩ = some (.int .i64 d.fn) ∧ w'.cell? ⟨pb, po + i * 10 + 2, none⟩ = some (.int .i64 d.win) ∧ w'.cell? ⟨pb, po + i * 10 + 3, none⟩ = some (.int .i64 d.off) ∧ w'.cell? ⟨pb, po + i * 10 + 4, none⟩ = some (.int .i64 d.k) ∧ w'.cell? ⟨pb, po + i * 10 + 5, none⟩ = some (.int .i64 d.num) ∧ w'.cell? ⟨pb, po + i * 10 + 6, none⟩ = some (.int .i64 d.den)) (first | exact ⟨p0, p1, p2, p3, p4, p5, p6⟩ | go_keep) (fail)
   obtain ⟨gn, hgn⟩ : ∃ g, wr.heap.size = g := ⟨_, rfl⟩
   rw [hgn] at HX0 ⊢
   clear HS0 p0 p1 p2 p3 p4 p5 p6 p7 p8 p9 hxi
   generalize (wr.alloc (.cells #[.int .i64 (d.kind), .int .i64 (d.fn), .int .i64 (d.win), .int .i64 (d.off), .int .i64 (d.k), .int .i64 (d.num), .int .i64 (d.den)] 3)).drew = W0 at HX0 ⊢
   clear hgn
   go_wp2_with fail
   go_loopw [3, 6] (fun o z wq => ∃ (j : Nat) (b : List Nat), j ≤ 7 ∧ z = .int .i64 (j : Nat) ∧ b.length ≤ b0.length + 10 * j ∧ Box (b = b0 ++ (([d.kind, d.fn, d.win, d.off, d.k, d.num, d.den] : List Int).take j).flatMap encI) ∧ ∃ (AO : Option Addr) (co : Nat), o = .slice AO b.length co ∧ Box (WrX w wq (.slice (some ⟨pb, po, none⟩) l.length c) l o b gn 3 #[.int .i64 (d.kind), .int .i64 (d.fn), .int .i64 (d.win), .int .i64 (d.off), .int .i64 (d.k), .int .i64 (d.num), .int .i64 (d.den)])) (fun _ z _ => 7 - (intOf z).toNat)
   case atStart => exact ⟨0, b0, by omega, rfl, by omega, ⟨by simp⟩, _, _, rfl, HX0⟩
   case round =>
    clear HX0
    rename World => wq
    obtain ⟨j, b1, hj, rfl, L1, E1, AO1, co1, rfl, HX1⟩ := hrel
    have hz1 := HX1.out.s.below.size
    by_cases hlt3 : j < 7
    ·have hlt4 : (j : Int) < 7 := by omega
     obtain ⟨x, hx⟩ : ∃ x, ([d.kind, d.fn, d.win, d.off, d.k, d.num, d.den] : List Int)[j]? = some x := ⟨_, List.getElem?_eq_getElem (by simp; omega)⟩
     have hxI : I64 x := h7 x (List.mem_of_getElem? hx)
     have q0 := HX1.out.x.at_ hx
     have HTK : Box ((([d.kind, d.fn, d.win, d.off, d.k, d.num, d.den] : List Int).take (j + 1)).flatMap encI = (([d.kind, d.fn, d.win, d.off, d.k, d.num, d.den] : List Int).take j).flatMap encI ++ encI x) := ⟨by rw [List.take_add_one, hx, List.flatMap_append]; simp⟩
     have hel := zig10 hxI
     have hep := encI_pos x
     clear hx
     have CQ := Box.mk (refint_any x wq hxI.1 hxI.2)
     go_wp2_with fail
     refine (CQ.out).mono ?_
     rintro e w6 ⟨vq, rfl, hO, hbq⟩
     obtain ⟨gq, cq, rfl, hgq, -, hcell⟩ := own_open hO (hep)
     have HC := Box.mk hcell
     have HY := Box.mk ((HX1.out.next hbq))
     clear hO hbq hcell hgq HX1 CQ q0
     have hzY := HY.out.s.below.size
     go_wp2_with (at_builtin; refine wpList_append_own _ rfl _ _ 39 rfl w.heap.size 5 j0 _ 1 1 Tryz.underlying39 HJ.out.1 HJ.out.2.1 HJ.out.2.2.1 HJ.out.2.2.2 rfl (by decide) (.slice AO1 b1.length co1) b1.length (u8L b1) rfl (by exact HY.out.s.own) ⟨gq, 0, none⟩ (encI x).length cq (u8L (encI x)) rfl (by rw [u8L_len]; omega) HC.out (u8L_one _) (by unfold maxLen; omega) (by omega) (by omega) ?_; intro v9 w9 hown9 hgr9 hnil9)
     obtain ⟨b6, Eb6⟩ : ∃ b, Box (b1 ++ encI x = b) := ⟨_, ⟨rfl⟩⟩
     have Lb6 : b6.length ≤ b1.length + 10 := by rw [← Eb6.out, List.length_append]; omega
     have HX2 := Box.mk (HY.out.app hown9 hgr9)
     rw [Eb6.out] at HX2
     clear hown9 hgr9 hnil9 HY HC hzY
     obtain ⟨Ab6, cb6, hvZ⟩ := own_form HX2.out.s.own
     subst hvZ
     go_wp2_with fail
     go_roundw
     case rel => exact ⟨j + 1, b6, by omega, by go_num, by omega, ⟨by rw [HTK.out, ← Eb6.out, E1.out, List.append_assoc]⟩, _, _, rfl, HX2⟩
     case measure => simp [intOf]; omega
    ·have hlt4 : ¬ (j : Int) < 7 := by omega
     have hje : j = 7 := by omega
     subst hje
     have E1' : Box (b1 = b0 ++ ([d.kind, d.fn, d.win, d.off, d.k, d.num, d.den] : List Int).flatMap encI) := ⟨E1.out⟩
     clear E1
     have E1 := Box.mk E1'.out
     clear E1'
     have HS1 : Box (WrB w wq (.slice (some ⟨pb, po, none⟩) l.length c) l (.slice AO1 b1.length co1) b1) := ⟨HX1.out.s⟩
     clear HX1
     obtain ⟨pb', po', mv0, bv0, hA, -, -, ⟨p0, p1, p2, p3, p4, p5, p6, p7, p8, p9⟩, hxi⟩ := HS1.out.pl.at_ i d HD.out
     cases hA
     obtain ⟨X1, x1, rfl, -⟩ := hxi.ms.form
     obtain ⟨X2, x2, rfl, -⟩ := hxi.bys.form
     have hepn := encS_pos d.name
     have heln := encS_len (s := d.name) HSD.out.name
     have CQ := Box.mk (rrawS_any d.name wq (by have := HSD.out.name; omega))
     go_wp2_with fail
     refine (CQ.out).mono ?_
     rintro e w6 ⟨vq, rfl, hO, hbq⟩
     obtain ⟨gq, cq, rfl, hgq, -, hcell⟩ := own_open hO (hepn)
     have HC := Box.mk hcell
     have HY := Box.mk ((HS1.out.next (below_then (bytes_below wq _ d.name) hbq)))
     clear hO hbq hcell hgq HS1 CQ
     have hzY := HY.out.below.size
     go_upto_region 11 with (at_builtin; refine wpList_append_own _ rfl _ _ 39 rfl w.heap.size 5 j0 _ 1 1 Tryz.underlying39 HJ.out.1 HJ.out.2.1 HJ.out.2.2.1 HJ.out.2.2.2 rfl (by decide) (.slice AO1 b1.length co1) b1.length (u8L b1) rfl (by exact HY.out.own) ⟨gq, 0, none⟩ (encS d.name).length cq (u8L (encS d.name)) rfl (by rw [u8L_len]; omega) HC.out (u8L_one _) (by unfold maxLen; omega) (by omega) (by omega) ?_; intro v9 w9 hown9 hgr9 hnil9)
     obtain ⟨b2, Eb2⟩ : ∃ b, Box (b1 ++ encS d.name = b) := ⟨_, ⟨rfl⟩⟩
     have Lb2 : b2.length ≤ b1.length + 26 := by rw [← Eb2.out, List.length_append]; omega
     have HS2 := Box.mk (HY.out.app hown9 hgr9)
     rw [Eb2.out] at HS2
     clear hown9 hgr9 hnil9 HY HC hzY
     obtain ⟨Ab2, cb2, hvZ⟩ := own_form HS2.out.own
     subst hvZ
     clear p0 p1 p2 p3 p4 p5 p6 p7 p8 p9 hxi
     obtain ⟨pb', po', mv0, bv0, hA, -, -, ⟨p0, p1, p2, p3, p4, p5, p6, p7, p8, p9⟩, hxi⟩ := HS2.out.pl.at_ i d HD.out
     cases hA
     obtain ⟨Y1, y1, rfl, -⟩ := hxi.ms.form
     obtain ⟨Y2, y2, rfl, -⟩ := hxi.bys.form
     have hepm := encI_pos (d.ms.length : Nat)
     have helm := zig10 hmn
     have CQ := Box.mk (refint_any (d.ms.length : Nat) w9 hmn.1 hmn.2)
     have hz2 := HS2.out.below.size
     go_wp2_with fail
     refine (CQ.out).mono ?_
     rintro e w7 ⟨vq, rfl, hO, hbq⟩
     obtain ⟨gq, cq, rfl, hgq, -, hcell⟩ := own_open hO (hepm)
     have HC := Box.mk hcell
     have HY := Box.mk ((HS2.out.next hbq))
     clear hO hbq hcell hgq HS2 CQ
     have hzY := HY.out.below.size
     go_wp2_with (at_builtin; refine wpList_append_own _ rfl _ _ 39 rfl w.heap.size 5 j0 _ 1 1 Tryz.underlying39 HJ.out.1 HJ.out.2.1 HJ.out.2.2.1 HJ.out.2.2.2 rfl (by decide) (.slice Ab2 b2.length cb2) b2.length (u8L b2) rfl (by exact HY.out.own) ⟨gq, 0, none⟩ (encI (d.ms.length : Nat)).length cq (u8L (encI (d.ms.length : Nat))) rfl (by rw [u8L_len]; omega) HC.out (u8L_one _) (by unfold maxLen; omega) (by omega) (by omega) ?_; intro v8 w8 hown8 hgr8 hnil8)
     obtain ⟨b3, Eb3⟩ : ∃ b, Box (b2 ++ encI (d.ms.length : Nat) = b) := ⟨_, ⟨rfl⟩⟩
     have Lb3 : b3.length ≤ b2.length + 10 := by rw [← Eb3.out, List.length_append]; omega
     have HS3 := Box.mk (HY.out.app hown8 hgr8)
     rw [Eb3.out] at HS3
     clear hown8 hgr8 hnil8 HY HC hzY
     obtain ⟨Ab3, cb3, hvZ⟩ := own_form HS3.out.own
     subst hvZ
     clear p0 p1 p2 p3 p4 p5 p6 p7 p8 p9 hxi
     go_wp2_with fail
     go_loopw [3, 7] (fun o z wq => ∃ (j : Nat) (b : List Nat), j ≤ d.ms.length ∧ z = .int .i64 (j : Nat) ∧ b.length ≤ b3.length + 62 * j ∧ Box (b = b3 ++ (d.ms.take j).flatMap matE) ∧ ∃ (AO : Option Addr) (co : Nat), o = .slice AO b.length co ∧ Box (WrB w wq (.slice (some ⟨pb, po, none⟩) l.length c) l o b)) (fun _ z _ => d.ms.length - (intOf z).toNat)
     case atStart => exact ⟨0, b3, by omega, rfl, by omega, ⟨by simp⟩, _, _, rfl, HS3⟩
     case round =>
      clear HS3 hepn heln hepm helm hz2
      rename World => wq
      obtain ⟨j, b4, hj, rfl, L4, E4, AO4, co4, rfl, HS4⟩ := hrel
      have hz4 := HS4.out.below.size
      obtain ⟨pb', po', mv0, bv0, hA, -, -, ⟨p0, p1, p2, p3, p4, p5, p6, p7, p8, p9⟩, hxi⟩ := HS4.out.pl.at_ i d HD.out
      cases hA
      obtain ⟨X1, x1, rfl, -⟩ := hxi.ms.form
      obtain ⟨X2, x2, rfl, -⟩ := hxi.bys.form
      by_cases hlt3 : j < d.ms.length
      ·have hlt4 : (j : Int) < (d.ms.length : Int) := by omega
       obtain ⟨x, hx⟩ : ∃ x, d.ms[j]? = some x := ⟨d.ms[j], List.getElem?_eq_getElem _⟩
       obtain ⟨mb, mo, hM, -, q0, q1, q2⟩ := hxi.ms.matP j x hx
       subst hM
       obtain ⟨hx1, hx3, hx2⟩ := HSD.out.ms x (List.mem_of_getElem? hx)
       have HTK : Box ((d.ms.take (j + 1)).flatMap matE = (d.ms.take j).flatMap matE ++ matE x) := ⟨by rw [List.take_add_one, hx, List.flatMap_append]; simp⟩
       have hel1 := encS_len (s := x.1) hx1
       have hep1 := encS_pos x.1
       have hel3 := encS_len (s := x.2.2) hx3
       have hep3 := encS_pos x.2.2
       have hel2 := zig10 hx2
       have hep2 := encI_pos x.2.1
       clear hx
       have HX0 : Box (WrX w (wq.alloc (.cells #[.string x.1, .int .i64 x.2.1, .string x.2.2] 86)) (.slice (some ⟨pb, po, none⟩) l.length c) l (.slice AO4 b4.length co4) b4 wq.heap.size 86 #[.string x.1, .int .i64 x.2.1, .string x.2.2]) := ⟨⟨HS4.out.next (bel1 _ _), Blk.new _ _ _, by decide⟩⟩
       go_upto_region 16 with (fail)
       obtain ⟨gm, hgm⟩ : ∃ g, wq.heap.size = g := ⟨_, rfl⟩
       rw [hgm] at HX0 ⊢
       clear hgm
       generalize wq.alloc (.cells #[.string x.1, .int .i64 x.2.1, .string x.2.2] 86) = W0 at HX0 ⊢
       clear HS4 p0 p1 p2 p3 p4 p5 p6 p7 p8 p9 q0 q1 q2 hxi
       obtain ⟨k0, k1, k2⟩ := HX0.out.x.c3
       have CQ := Box.mk (rrawS_any x.1 W0 (by omega))
       have hz0 := HX0.out.s.below.size
       go_wp2_with fail
       refine (CQ.out).mono ?_
       rintro e w6 ⟨vq, rfl, hO, hbq⟩
       obtain ⟨gq, cq, rfl, hgq, -, hcell⟩ := own_open hO (hep1)
       have HC := Box.mk hcell
       have HY := Box.mk ((HX0.out.next (below_then (bytes_below W0 _ x.1) hbq)))
       clear hO hbq hcell hgq HX0 CQ k0 k1 k2 hz0
       have hzY := HY.out.s.below.size
       go_upto_region 17 with (at_builtin; refine wpList_append_own _ rfl _ _ 39 rfl w.heap.size 5 j0 _ 1 1 Tryz.underlying39 HJ.out.1 HJ.out.2.1 HJ.out.2.2.1 HJ.out.2.2.2 rfl (by decide) (.slice AO4 b4.length co4) b4.length (u8L b4) rfl (by exact HY.out.s.own) ⟨gq, 0, none⟩ (encS x.1).length cq (u8L (encS x.1)) rfl (by rw [u8L_len]; omega) HC.out (u8L_one _) (by unfold maxLen; omega) (by omega) (by omega) ?_; intro v9 w9 hown9 hgr9 hnil9)
       obtain ⟨bx1, Ebx1⟩ : ∃ b, Box (b4 ++ encS x.1 = b) := ⟨_, ⟨rfl⟩⟩
       have Lbx1 : bx1.length ≤ b4.length + 26 := by rw [← Ebx1.out, List.length_append]; omega
       have HX1 := Box.mk (HY.out.app hown9 hgr9)
       rw [Ebx1.out] at HX1
       clear hown9 hgr9 hnil9 HY HC hzY
       obtain ⟨Abx1, cbx1, hvZ⟩ := own_form HX1.out.s.own
       subst hvZ
       obtain ⟨k0, k1, k2⟩ := HX1.out.x.c3
       have CQ := Box.mk (refint_any x.2.1 w9 hx2.1 hx2.2)
       have hz0 := HX1.out.s.below.size
       go_wp2_with fail
       refine (CQ.out).mono ?_
       rintro e w7 ⟨vq, rfl, hO, hbq⟩
       obtain ⟨gq, cq, rfl, hgq, -, hcell⟩ := own_open hO (hep2)
       have HC := Box.mk hcell
       have HY := Box.mk ((HX1.out.next hbq))
       clear hO hbq hcell hgq HX1 CQ k0 k1 k2 hz0
       have hzY := HY.out.s.below.size
       go_upto_region 18 with (at_builtin; refine wpList_append_own _ rfl _ _ 39 rfl w.heap.size 5 j0 _ 1 1 Tryz.underlying39 HJ.out.1 HJ.out.2.1 HJ.out.2.2.1 HJ.out.2.2.2 rfl (by decide) (.slice Abx1 bx1.length cbx1) bx1.length (u8L bx1) rfl (by exact HY.out.s.own) ⟨gq, 0, none⟩ (encI x.2.1).length cq (u8L (encI x.2.1)) rfl (by rw [u8L_len]; omega) HC.out (u8L_one _) (by unfold maxLen; omega) (by omega) (by omega) ?_; intro v8 w8 hown8 hgr8 hnil8)
       obtain ⟨bx2, Ebx2⟩ : ∃ b, Box (bx1 ++ encI x.2.1 = b) := ⟨_, ⟨rfl⟩⟩
       have Lbx2 : bx2.length ≤ bx1.length + 10 := by rw [← Ebx2.out, List.length_append]; omega
       have HX2 := Box.mk (HY.out.app hown8 hgr8)
       rw [Ebx2.out] at HX2
       clear hown8 hgr8 hnil8 HY HC hzY
       obtain ⟨Abx2, cbx2, hvZ⟩ := own_form HX2.out.s.own
       subst hvZ
       obtain ⟨k0, k1, k2⟩ := HX2.out.x.c3
       have CQ := Box.mk (rrawS_any x.2.2 w8 (by omega))
       have hz0 := HX2.out.s.below.size
       go_wp2_with fail
       refine (CQ.out).mono ?_
       rintro e w5 ⟨vq, rfl, hO, hbq⟩
       obtain ⟨gq, cq, rfl, hgq, -, hcell⟩ := own_open hO (hep3)
       have HC := Box.mk hcell
       have HY := Box.mk ((HX2.out.next (below_then (bytes_below w8 _ x.2.2) hbq)))
       clear hO hbq hcell hgq HX2 CQ k0 k1 k2 hz0
       have hzY := HY.out.s.below.size
       go_wp2_with (at_builtin; refine wpList_append_own _ rfl _ _ 39 rfl w.heap.size 5 j0 _ 1 1 Tryz.underlying39 HJ.out.1 HJ.out.2.1 HJ.out.2.2.1 HJ.out.2.2.2 rfl (by decide) (.slice Abx2 bx2.length cbx2) bx2.length (u8L bx2) rfl (by exact HY.out.s.own) ⟨gq, 0, none⟩ (encS x.2.2).length cq (u8L (encS x.2.2)) rfl (by rw [u8L_len]; omega) HC.out (u8L_one _) (by unfold maxLen; omega) (by omega) (by omega) ?_; intro v9 w9 hown9 hgr9 hnil9)
       obtain ⟨bx3, Ebx3⟩ : ∃ b, Box (bx2 ++ encS x.2.2 = b) := ⟨_, ⟨rfl⟩⟩
       have Lbx3 : bx3.length ≤ bx2.length + 26 := by rw [← Ebx3.out, List.length_append]; omega
       have HX3 := Box.mk (HY.out.app hown9 hgr9)
       rw [Ebx3.out] at HX3
       clear hown9 hgr9 hnil9 HY HC hzY
       obtain ⟨Abx3, cbx3, hvZ⟩ := own_form HX3.out.s.own
       subst hvZ
       have HME : Box (matE x = encS x.1 ++ (encI x.2.1 ++ encS x.2.2)) := ⟨rfl⟩
       go_wp2_with fail
       go_roundw
       case rel => exact ⟨j + 1, bx3, by omega, by go_num, by omega, ⟨by rw [HTK.out, ← Ebx3.out, ← Ebx2.out, ← Ebx1.out, E4.out, HME.out]; simp only [List.append_assoc]⟩, _, _, rfl, ⟨HX3.out.s⟩⟩
       case measure => simp [intOf]; omega
      ·have hlt4 : ¬ (j : Int) < (d.ms.length : Int) := by omega
       have hje : j = d.ms.length := by omega
       subst hje
       clear p0 p1 p2 p3 p4 p5 p6 p7 hxi
       have hepb := encI_pos (d.bys.length : Nat)
       have helb := zig10 hbn
       have CQ := Box.mk (refint_any (d.bys.length : Nat) wq hbn.1 hbn.2)
       go_wp2_with fail
       refine (CQ.out).mono ?_
       rintro e w6 ⟨vq, rfl, hO, hbq⟩
       obtain ⟨gq, cq, rfl, hgq, -, hcell⟩ := own_open hO (hepb)
       have HC := Box.mk hcell
       have HY := Box.mk ((HS4.out.next hbq))
       clear hO hbq hcell hgq HS4 CQ p8 p9
       have hzY := HY.out.below.size
       go_wp2_with (at_builtin; refine wpList_append_own _ rfl _ _ 39 rfl w.heap.size 5 j0 _ 1 1 Tryz.underlying39 HJ.out.1 HJ.out.2.1 HJ.out.2.2.1 HJ.out.2.2.2 rfl (by decide) (.slice AO4 b4.length co4) b4.length (u8L b4) rfl (by exact HY.out.own) ⟨gq, 0, none⟩ (encI (d.bys.length : Nat)).length cq (u8L (encI (d.bys.length : Nat))) rfl (by rw [u8L_len]; omega) HC.out (u8L_one _) (by unfold maxLen; omega) (by omega) (by omega) ?_; intro v9 w9 hown9 hgr9 hnil9)
       obtain ⟨b5, Eb5⟩ : ∃ b, Box (b4 ++ encI (d.bys.length : Nat) = b) := ⟨_, ⟨rfl⟩⟩
       have Lb5 : b5.length ≤ b4.length + 10 := by rw [← Eb5.out, List.length_append]; omega
       have HS5 := Box.mk (HY.out.app hown9 hgr9)
       rw [Eb5.out] at HS5
       clear hown9 hgr9 hnil9 HY HC hzY
       obtain ⟨Ab5, cb5, hvZ⟩ := own_form HS5.out.own
       subst hvZ
       rw [List.take_length] at E4
       go_wp2_with fail
       go_loopw [3, 9] (fun o z wq => ∃ (j : Nat) (b : List Nat), j ≤ d.bys.length ∧ z = .int .i64 (j : Nat) ∧ b.length ≤ b5.length + 26 * j ∧ Box (b = b5 ++ (d.bys.take j).flatMap encS) ∧ ∃ (AO : Option Addr) (co : Nat), o = .slice AO b.length co ∧ Box (WrB w wq (.slice (some ⟨pb, po, none⟩) l.length c) l o b)) (fun _ z _ => d.bys.length - (intOf z).toNat)
       case atStart => exact ⟨0, b5, by omega, rfl, by omega, ⟨by simp⟩, _, _, rfl, HS5⟩
       case round =>
        clear HS5 hepb helb
        rename World => wq
        have ENC : Box (encNd d = ([d.kind, d.fn, d.win, d.off, d.k, d.num, d.den] : List Int).flatMap encI ++ (encS d.name ++ (encI d.ms.length ++ (d.ms.flatMap matE ++ (encI d.bys.length ++ d.bys.flatMap encS))))) := ⟨by unfold encNd; rw [hdE_eq]⟩
        have E5' : Box (b5 = _) := ⟨by rw [← Eb5.out, E4.out, ← Eb3.out, ← Eb2.out, E1.out, E0.out]⟩
        obtain ⟨j, b5, hj, rfl, L5, E5, AO5, co5, rfl, HS5⟩ := hrel
        have hz5 := HS5.out.below.size
        obtain ⟨pb', po', mv0, bv0, hA, -, -, ⟨p0, p1, p2, p3, p4, p5, p6, p7, p8, p9⟩, hxi⟩ := HS5.out.pl.at_ i d HD.out
        cases hA
        obtain ⟨X1, x1, rfl, -⟩ := hxi.ms.form
        obtain ⟨X2, x2, rfl, -⟩ := hxi.bys.form
        by_cases hlt3 : j < d.bys.length
        ·have hlt4 : (j : Int) < (d.bys.length : Int) := by omega
         obtain ⟨x, hx⟩ : ∃ x, d.bys[j]? = some x := ⟨d.bys[j], List.getElem?_eq_getElem _⟩
         obtain ⟨mb, mo, hM, -, q0⟩ := hxi.bys.at1 j (.string x) (by rw [List.getElem?_map, hx]; rfl)
         subst hM
         have HSX := HSD.out.bys x (List.mem_of_getElem? hx)
         have HTK : Box ((d.bys.take (j + 1)).flatMap encS = (d.bys.take j).flatMap encS ++ encS x) := ⟨by rw [List.take_add_one, hx, List.flatMap_append]; simp⟩
         have hel := encS_len (s := x) HSX
         have hep := encS_pos x
         clear hx
         have CQ := Box.mk (rrawS_any x wq (by omega))
         go_wp2_with fail
         refine (CQ.out).mono ?_
         rintro e w6 ⟨vq, rfl, hO, hbq⟩
         obtain ⟨gq, cq, rfl, hgq, -, hcell⟩ := own_open hO (hep)
         have HC := Box.mk hcell
         have HY := Box.mk ((HS5.out.next (below_then (bytes_below wq _ x) hbq)))
         clear hO hbq hcell hgq HS5 CQ
         have hzY := HY.out.below.size
         go_wp2_with (at_builtin; refine wpList_append_own _ rfl _ _ 39 rfl w.heap.size 5 j0 _ 1 1 Tryz.underlying39 HJ.out.1 HJ.out.2.1 HJ.out.2.2.1 HJ.out.2.2.2 rfl (by decide) (.slice AO5 b5.length co5) b5.length (u8L b5) rfl (by exact HY.out.own) ⟨gq, 0, none⟩ (encS x).length cq (u8L (encS x)) rfl (by rw [u8L_len]; omega) HC.out (u8L_one _) (by unfold maxLen; omega) (by omega) (by omega) ?_; intro v9 w9 hown9 hgr9 hnil9)
         obtain ⟨b6, Eb6⟩ : ∃ b, Box (b5 ++ encS x = b) := ⟨_, ⟨rfl⟩⟩
         have Lb6 : b6.length ≤ b5.length + 26 := by rw [← Eb6.out, List.length_append]; omega
         have HS6 := Box.mk (HY.out.app hown9 hgr9)
         rw [Eb6.out] at HS6
         clear hown9 hgr9 hnil9 HY HC hzY
         obtain ⟨Ab6, cb6, hvZ⟩ := own_form HS6.out.own
         subst hvZ
         clear p0 p1 p2 p3 p4 p5 p6 p7 p8 p9 q0
         go_wp2_with fail
         go_roundw
         case rel => exact ⟨j + 1, b6, by omega, by go_num, by omega, ⟨by rw [HTK.out, ← Eb6.out, E5.out, List.append_assoc]⟩, _, _, rfl, HS6⟩
         case measure => simp [intOf]; omega
        ·have hlt4 : ¬ (j : Int) < (d.bys.length : Int) := by omega
         have hje : j = d.bys.length := by omega
         subst hje
         clear p0 p1 p2 p3 p4 p5 p6 p7 p8 hxi
         go_wp2_with fail
         go_roundw
         case rel => exact ⟨i + 1, b5, by omega, by go_num, by omega, ⟨by rw [HTI.out, E5.out, E5'.out, List.take_length, ENC.out]; simp only [List.append_assoc]⟩, _, _, rfl, HS5⟩
         case measure => simp [intOf]; omega
  ·have hlt2 : ¬ (i : Int) < (l.length : Int) := by omega
   have hie : i = l.length := by omega
   subst hie
   have HF : Box (b0 = encPl l) := ⟨by rw [E0.out, List.take_length]; rfl⟩
   go_wp2_with fail
   go_ret
   exact ⟨_, rfl, by rw [← HF.out]; exact HS0.out.own, HS0.out.below⟩
end
end Go.Proofs.YtkdojgkiclndfaaGreatDoor
