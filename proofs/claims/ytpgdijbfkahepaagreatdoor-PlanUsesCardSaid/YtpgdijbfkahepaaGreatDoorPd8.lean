/- Contracts, packed: Qs Yc Yd Ye Kf Kg. -/
import Derived.Test.YtpgdijbfkahepaaGreatDoorPd1
import Derived.Test.YtpgdijbfkahepaaGreatDoorPd3
import Derived.Test.YtpgdijbfkahepaaGreatDoorPd4
import Derived.Test.YtpgdijbfkahepaaGreatDoorPd6
import Derived.Test.YtpgdijbfkahepaaGreatDoorPd7
import Derived.Maps.AppendAt
import Derived.Deep.AppendLies
import Derived.Laws.OwnMore
import Derived.Laws.Concat
import Derived.BigQuiet
set_option linter.unusedVariables false
set_option linter.unusedSimpArgs false
namespace Go.Proofs.YtpgdijbfkahepaaGreatDoor
section
open Go.RowKit
/-- block b is a row of cells of element type t -/
def TyAt (w : World) (b : Nat) (t : TypeId) : Prop := ∃ cs fz, w.heap[b]? = some (.cells cs t fz)
/-- the strings fit, the matchers are few -/
def MsOk (ms : List Mat) : Prop := ms.length ≤ 1000 ∧ ∀ x ∈ ms, x.1.size ≤ maxLen ∧ x.2.2.size ≤ maxLen
theorem matInfo : (Tryz.prog.info? 75).map (fun i => (i.zero, i.size, i.bytes)) = some (some (.agg #[.string ⟨#[]⟩, .int .i64 0, .string ⟨#[]⟩]), 3, 40) := by kernel_rfl
theorem own_form {w : World} {B t size n : Nat} {v : Value} {xs : List Value} (h : w.ownsRow B t size v n xs) : ∃ A c, v = .slice A n c := by
 rcases h.2 with ⟨rfl, rfl⟩ | ⟨g, cap, cur, rfl, _⟩
 ·exact ⟨_, _, rfl⟩
 ·exact ⟨_, _, rfl⟩
theorem Fr.grown {base : Nat} {T : List TypeId} {w0 w w' : World} {row : Option Nat} {t : TypeId} (h : Fr base T w0 w) (hg : w.grownBy w' row) (hr : ∀ g, row = some g → base ≤ g ∧ TyAt w g t) (hT : t ∈ T) : Fr base T w0 w' := by
 refine h.trans ⟨hg.os, hg.tape, hg.output, hg.size, fun k hk hc => hg.block k hk ?_⟩
 intro e
 obtain ⟨hb, cs, fz, ht⟩ := hr k e.symm
 rcases hc with hc | ⟨cs', t', fz', hc, hn⟩
 ·omega
 ·rw [ht] at hc; cases hc; exact hn hT
theorem own_below {w w' : World} {B t size n : Nat} {v : Value} {xs : List Value} (h : w.ownsRow B t size v n xs) (hb : Below w.heap.size w w') : w'.ownsRow B t size v n xs :=
 h.kept (row := none) ⟨hb.os, hb.tape, hb.output, hb.size, fun i hi _ => hb.block i hi⟩ (by cases hv : v.ownBlock <;> simp)
theorem own_ty {w : World} {B t size n : Nat} {v : Value} {xs : List Value} (h : w.ownsRow B t size v n xs) : ∀ g, v.ownBlock = some g → B ≤ g ∧ TyAt w g t := by
 intro g hg
 rcases h.2 with ⟨rfl, _⟩ | ⟨g', cap, cur, rfl, hb, hh, _⟩
 ·simp [Value.ownBlock] at hg
 ·simp [Value.ownBlock] at hg; subst hg; exact ⟨hb, cur, _, hh⟩
/-- a row of the call's own has grown: blocks of other types are as they were -/
theorem grow_fr {W W' w9 : World} {base n t size : Nat} {v : Value} {xs : List Value} (hown : W.ownsRow base t size v n xs) (hb : Below W.heap.size W W') (hg : W'.grownBy w9 v.ownBlock) : Fr base [t] W w9 :=
 Fr.grown (t := t) (Fr.of_below hb) hg (fun g hg => (own_ty (own_below hown hb)) g hg) (by simp)
end
section
open Go.RowKit
theorem WordsW.below {w w' : World} (h : WordsW w) (hb : Below w.heap.size w w') : WordsW w' := by
 obtain ⟨h1, h5, h6⟩ := h
 refine ⟨fun k hk => ?_, Nat.lt_of_lt_of_le h5 hb.size, Nat.lt_of_lt_of_le h6 hb.size⟩
 obtain ⟨s, hs, hn⟩ := h1 k hk
 exact ⟨s, (hb.cell h5).trans hs, hn⟩
end
section
open Go.RowKit
end
section
open Go.RowKit
end
section
open Go.RowKit
theorem kindex (s : ByteArray) (c : UInt8) (w : World) : Calls Tryz.prog 88 #[.string s, .int .u8 (c.toNat : Int)] w fun e w' => e = .returned (.int .i64 (Lib.indexByte s.data.toList c)) ∧ w' = w := by
 have := Tryz.strings_IndexByte s (c.toNat : Int) w
 simpa using this
theorem ext_drop (s : ByteArray) (a : Nat) : (s.extract a s.size).data.toList = s.data.toList.drop a := by
 rw [ByteArray.data_extract, Array.toList_extract, List.extract_eq_take_drop]
 rw [List.take_of_length_le]
 rw [List.length_drop, data_size]
 omega
theorem txt_ix (c : UInt8) (r : Int) (h : Lib.indexByte [92, 44, 123, 125] c = r) : (txtB c = true ∧ 33 ≤ c.toNat ∧ c.toNat ≤ 126 ∧ r < 0) ∨ (txtB c = false ∧ (c.toNat < 33 ∨ (33 ≤ c.toNat ∧ 126 < c.toNat) ∨ (33 ≤ c.toNat ∧ c.toNat ≤ 126 ∧ 0 ≤ r))) := by
 have key : ∀ n : Fin 256, (txtB (UInt8.ofNat n.1) = true ∧ 33 ≤ n.1 ∧ n.1 ≤ 126 ∧ Lib.indexByte [92, 44, 123, 125] (UInt8.ofNat n.1) < 0) ∨ (txtB (UInt8.ofNat n.1) = false ∧ (n.1 < 33 ∨ (33 ≤ n.1 ∧ 126 < n.1) ∨ (33 ≤ n.1 ∧ n.1 ≤ 126 ∧ 0 ≤ Lib.indexByte [92, 44, 123, 125] (UInt8.ofNat n.1)))) := by decide +kernel
 have := key ⟨c.toNat, c.toNat_lt⟩
 simp only [UInt8.ofNat_toNat] at this
 rw [h] at this
 exact this
set_option maxHeartbeats 1000000 in
theorem ktext_any (q i : Nat) (s : ByteArray) (w : World) (h : Src w q s i 0) (hi : i < s.size) (hs : s.size ≤ 4000) :
  Calls Tryz.prog 75 #[.pointer (some ⟨q, 0, none⟩)] w (RetK q s i (tokT i (s.data.toList.drop i)) w) := by
 obtain ⟨R, HR⟩ : ∃ R, Box (tokT i (s.data.toList.drop i) = R) := ⟨_, ⟨rfl⟩⟩
 obtain ⟨L, HL⟩ : ∃ L, Box (s.data.toList.drop (i + 1) = L) := ⟨_, ⟨rfl⟩⟩
 obtain ⟨m, HM⟩ : ∃ m, Box (Lib.indexByte L 34 = m) := ⟨_, ⟨rfl⟩⟩
 have hm := ixb_lt L 34
 have hLl : L.length = s.size - (i + 1) := by rw [← HL.out, List.length_drop, data_size]
 rw [HM.out, hLl] at hm
 have HI : Box (∀ W, Calls Tryz.prog 88 #[.string (s.extract (i + 1) s.size), .int .u8 34] W fun e w' => e = .returned (.int .i64 m) ∧ w' = W) := ⟨fun W => by
  have := kindex (s.extract (i + 1) s.size) 34 W
  rw [ext_drop, HL.out, HM.out] at this
  exact this⟩
 have HT : Box (tokT i (s.data.toList.drop i) = if m < 0 then (2, ⟨0, [], 0, 0⟩, 2) else if (L.take m.toNat).all txtB then (if 16 < m then 4 else 0, ⟨2, L.take m.toNat, 0, i⟩, m.toNat + 2) else (2, ⟨0, [], 0, 0⟩, 2)) := ⟨by
  unfold tokT
  rw [List.tail_drop, HL.out, HM.out]⟩
 rw [HR.out] at HT ⊢
 have H0 := Box.mk h
 obtain ⟨c0, c1, c2⟩ := h.c3
 have cf := h.frozen
 have hq := h.lt
 have hq2 : ¬ w.heap.size = q := by omega
 have hq3 : ¬ q = w.heap.size := by omega
 clear h
 go_enter Tryz.func75, Tryz.ntmps75
 have HW : Box (Wr q w (w.alloc (.cells zeroTok 103)) ∧ Src (w.alloc (.cells zeroTok 103)) q s i 0 ∧ Blk (w.alloc (.cells zeroTok 103)) w.heap.size 103 zeroTok) := ⟨(Wr.refl q w).alloc _, H0.out.alloc _, Blk.new _ _ _⟩
 go_upto_region 1 with (fail)
 generalize w.alloc (.cells zeroTok 103) = W at *
 clear c0 c1 c2 cf
 obtain ⟨c0, c1, c2⟩ := HW.out.2.1.c3
 go_quiet ((go_at_call 88; exact Calls.quiet_of_same (HI.out _)))
 have HW1 : Box (Wr q w (W.drewN nq) ∧ Src (W.drewN nq) q s i 0 ∧ Blk (W.drewN nq) w.heap.size 103 zeroTok) := ⟨HW.out.1.drewN nq, HW.out.2.1.drewN nq, HW.out.2.2.drewN nq⟩
 clear HW c0 c1 c2
 generalize W.drewN nq = W1 at *
 have cf := HW1.out.2.1.frozen
 obtain ⟨c0, c1, c2⟩ := HW1.out.2.1.c3
 have HW2 : ∀ er : Int, Box (Wr q w (W1.setCell ⟨q, 2, none⟩ (.int .i64 er)) ∧ Src (W1.setCell ⟨q, 2, none⟩ (.int .i64 er)) q s i er ∧ Blk (W1.setCell ⟨q, 2, none⟩ (.int .i64 er)) w.heap.size 103 zeroTok) := fun er =>
  ⟨HW1.out.1.set 2 _, by have := HW1.out.2.1.set 2 (.int .i64 er); simpa using this, HW1.out.2.2.far (p := ⟨q, 2, none⟩) hq2 _⟩
 by_cases hneg : m < 0
 ·have HT2 : Box (R = (2, ⟨0, [], 0, 0⟩, 2)) := ⟨by rw [HT.out, if_pos hneg]⟩
  have HX := HW2 2
  clear HW2
  go_upto_region 4 with (fail)
  generalize W1.setCell ⟨q, 2, none⟩ (.int .i64 2) = W2 at *
  clear c0 c1 c2 cf
  obtain ⟨t0, t1, t2, t3⟩ := HX.out.2.2.c4
  have tf := HX.out.2.2.frozen
  go_wp2_with fail
  clear t0 t1 t2 t3 tf
  have HF := Box.mk (tok_fin0 (k := 0) (t := ⟨#[]⟩) (n := 0) (o := 0) HX.out.1 HX.out.2.1 HX.out.2.2 hq)
  clear HX
  show bodyPost _ _ _ _ _ (putT W2 w.heap.size 0 ⟨#[]⟩ 0 0)
  generalize (putT W2 w.heap.size 0 ⟨#[]⟩ 0 0) = WF at HF ⊢
  obtain ⟨t0, t1, t2, t3⟩ := HF.out.1.c4
  have tf := HF.out.1.frozen
  exact bodyPost_ret (v := .agg #[.int .i64 0, .string ⟨#[]⟩, .int .i64 0, .int .i64 0]) (by simp [results, Tryz.results75, go_sem, t0, t1, t2, t3, tf]) rfl ⟨by rw [HT2.out]; rfl, by rw [HT2.out]; exact HF.out.2.2, HF.out.2.1⟩
 obtain ⟨k, rfl⟩ : ∃ k : Nat, m = k := ⟨m.toNat, by omega⟩
 have hk : i + 1 + k ≤ s.size := by omega
 rw [if_neg hneg, Int.toNat_natCast] at HT
 clear hneg
 have hk2 : (i : Int) + 1 + (k : Int) ≤ (s.size : Int) := by omega
 obtain ⟨t, Ht⟩ : ∃ t, Box (s.extract (i + 1) (i + 1 + k) = t) := ⟨_, ⟨rfl⟩⟩
 have HtL : Box (t.data.toList = L.take k) := ⟨by rw [← Ht.out, ext_bs, HL.out]; simp [bsL]⟩
 have hts : t.size = k := by
  rw [← data_size, HtL.out, List.length_take, hLl]; omega
 go_upto_region 5 with (fail)
 go_quiet (fail)
 have hex : s.extract (i + 1) (i + 1 + k) = t := Ht.out
 rw [hex]
 have HW3 : Box (Wr q w (W1.drewN nq) ∧ Src (W1.drewN nq) q s i 0 ∧ Blk (W1.drewN nq) w.heap.size 103 zeroTok) := ⟨HW1.out.1.drewN nq, HW1.out.2.1.drewN nq, HW1.out.2.2.drewN nq⟩
 clear HW1 HW2 c0 c1 c2 cf hex Ht
 generalize W1.drewN nq = W3 at *
 have cf := HW3.out.2.1.frozen
 obtain ⟨c0, c1, c2⟩ := HW3.out.2.1.c3
 have HW2 : ∀ er : Int, Box (Wr q w (W3.setCell ⟨q, 2, none⟩ (.int .i64 er)) ∧ Src (W3.setCell ⟨q, 2, none⟩ (.int .i64 er)) q s i er ∧ Blk (W3.setCell ⟨q, 2, none⟩ (.int .i64 er)) w.heap.size 103 zeroTok) := fun er =>
  ⟨HW3.out.1.set 2 _, by have := HW3.out.2.1.set 2 (.int .i64 er); simpa using this, HW3.out.2.2.far (p := ⟨q, 2, none⟩) hq2 _⟩
 go_wp2_with fail
 go_loop [43] (fun v => ∃ j : Nat, v = .int .i64 j ∧ j ≤ k ∧ Hid (((L.take k).drop j).all txtB = (L.take k).all txtB)) (fun v => k - (intOf v).toNat)
 case atStart => exact ⟨0, rfl, by omega, by show ((L.take k).drop 0).all txtB = _; rw [List.drop_zero]⟩
 case round =>
  obtain ⟨j, rfl, hj, HJ⟩ := hrel
  by_cases hlt : j < k
  ·have hlt2 : (j : Int) < (k : Int) := by omega
   have hjt : j < t.size := by omega
   have hjL : (L.take k).drop j = t[j] :: (L.take k).drop (j + 1) := by rw [← HtL.out]; exact kdrop_at hjt
   have HJ2 : Hid ((txtB t[j] && ((L.take k).drop (j + 1)).all txtB) = (L.take k).all txtB) := by
    have := HJ.out
    rw [hjL, List.all_cons] at this
    exact this
   obtain ⟨r, Hr⟩ : ∃ r, Box (Lib.indexByte [92, 44, 123, 125] t[j] = r) := ⟨_, ⟨rfl⟩⟩
   have HIc : Box (∀ W, Calls Tryz.prog 88 #[.string ⟨#[92, 44, 123, 125]⟩, .int .u8 (t[j].toNat : Int)] W fun e w' => e = .returned (.int .i64 r) ∧ w' = W) := ⟨fun W => by
    have := kindex ⟨#[92, 44, 123, 125]⟩ t[j] W
    rw [show (⟨#[92, 44, 123, 125]⟩ : ByteArray).data.toList = [92, 44, 123, 125] from rfl, Hr.out] at this
    exact this⟩
   have HTX := txt_ix t[j] r Hr.out
   have hlt3 : (j : Int) < (t.size : Int) := by omega
   clear hjL HJ
   rcases HTX with ⟨h1, h2, h3, h4⟩ | ⟨h1, hbad⟩
   ·have HJ3 : Hid (((L.take k).drop (j + 1)).all txtB = (L.take k).all txtB) := by have := HJ2.out; rw [h1, Bool.true_and] at this; exact this
    clear HJ2 h1 HW2
    go_wp2_with (go_at_call 88; (with_reducible refine (HIc.out _).mono ?_); rintro e w7 ⟨rfl, hw⟩; subst w7)
    go_round
    case rel => exact ⟨j + 1, by go_num, by omega, HJ3.out⟩
    case measure => simp [intOf]; omega
   ·have HT2 : Box (R = (2, ⟨0, [], 0, 0⟩, 2)) := ⟨by
     have := HJ2.out
     rw [h1, Bool.false_and] at this
     rw [HT.out, ← this]; rfl⟩
    have HX := HW2 2
    clear HW2 HJ2 h1
    rcases hbad with hb1 | ⟨hb1, hb2⟩ | ⟨hb1, hb2, hb3⟩
    all_goals
     go_upto_region 12 with (go_at_call 88; (with_reducible refine (HIc.out _).mono ?_); rintro e w7 ⟨rfl, hw⟩; subst w7)
     generalize W3.setCell ⟨q, 2, none⟩ (.int .i64 2) = W2 at *
     clear c0 c1 c2 cf
     obtain ⟨t0, t1, t2, t3⟩ := HX.out.2.2.c4
     have tf := HX.out.2.2.frozen
     go_wp2_with fail
     clear t0 t1 t2 t3 tf
     have HF := Box.mk (tok_fin0 (k := 0) (t := ⟨#[]⟩) (n := 0) (o := 0) HX.out.1 HX.out.2.1 HX.out.2.2 hq)
     clear HX
     show bodyPost _ _ _ _ _ (putT W2 w.heap.size 0 ⟨#[]⟩ 0 0)
     generalize (putT W2 w.heap.size 0 ⟨#[]⟩ 0 0) = WF at HF ⊢
     obtain ⟨t0, t1, t2, t3⟩ := HF.out.1.c4
     have tf := HF.out.1.frozen
     exact bodyPost_ret (v := .agg #[.int .i64 0, .string ⟨#[]⟩, .int .i64 0, .int .i64 0]) (by simp [results, Tryz.results75, go_sem, t0, t1, t2, t3, tf]) rfl ⟨by rw [HT2.out]; rfl, by rw [HT2.out]; exact HF.out.2.2, HF.out.2.1⟩
  ·obtain rfl : j = k := by omega
   have hall : (L.take j).all txtB = true := by
    have := HJ.out
    rw [List.drop_eq_nil_of_le (by rw [List.length_take]; omega)] at this
    rw [← this]; rfl
   have HTB : Box (t = bsL (L.take j)) := ⟨by unfold bsL; rw [← HtL.out]⟩
   rw [if_pos hall] at HT
   have hlt3 : ¬ (j : Int) < (t.size : Int) := by omega
   clear HJ hall
   by_cases hbig : (16 : Int) < (j : Int)
   ·have HX := HW2 4
    have HT2 : Box (R = (4, ⟨2, L.take j, 0, i⟩, j + 2)) := ⟨by rw [HT.out, if_pos hbig]⟩
    clear HW2
    go_upto_region 16 with (fail)
    generalize W3.setCell ⟨q, 2, none⟩ (.int .i64 4) = W2 at *
    clear c0 c1 c2 cf
    obtain ⟨c0, c1, c2⟩ := HX.out.2.1.c3
    obtain ⟨t0, t1, t2, t3⟩ := HX.out.2.2.c4
    have tf := HX.out.2.2.frozen
    go_wp2_with fail
    clear t0 t1 t2 t3 tf
    have HF := Box.mk (tok_fin0 (k := 2) (t := t) (n := 0) (o := i) HX.out.1 HX.out.2.1 HX.out.2.2 hq)
    clear HX
    show bodyPost _ _ _ _ _ (putT W2 w.heap.size 2 t 0 i)
    generalize (putT W2 w.heap.size 2 t 0 i) = WF at HF ⊢
    obtain ⟨t0, t1, t2, t3⟩ := HF.out.1.c4
    have tf := HF.out.1.frozen
    exact bodyPost_ret (v := .agg #[.int .i64 2, .string t, .int .i64 0, .int .i64 i]) (by simp [results, Tryz.results75, go_sem, t0, t1, t2, t3, tf]) rfl ⟨by rw [HT2.out, HTB.out], by rw [HT2.out]; exact HF.out.2.2, HF.out.2.1⟩
   ·have HT2 : Box (R = (0, ⟨2, L.take j, 0, i⟩, j + 2)) := ⟨by rw [HT.out, if_neg hbig]⟩
    clear HW2
    go_upto_region 16 with (fail)
    obtain ⟨t0, t1, t2, t3⟩ := HW3.out.2.2.c4
    have tf := HW3.out.2.2.frozen
    go_wp2_with fail
    clear t0 t1 t2 t3 tf
    have HF := Box.mk (tok_fin0 (k := 2) (t := t) (n := 0) (o := i) HW3.out.1 HW3.out.2.1 HW3.out.2.2 hq)
    clear HW3
    show bodyPost _ _ _ _ _ (putT W3 w.heap.size 2 t 0 i)
    generalize (putT W3 w.heap.size 2 t 0 i) = WF at HF ⊢
    obtain ⟨t0, t1, t2, t3⟩ := HF.out.1.c4
    have tf := HF.out.1.frozen
    exact bodyPost_ret (v := .agg #[.int .i64 2, .string t, .int .i64 0, .int .i64 i]) (by simp [results, Tryz.results75, go_sem, t0, t1, t2, t3, tf]) rfl ⟨by rw [HT2.out, HTB.out], by rw [HT2.out]; exact HF.out.2.2, HF.out.2.1⟩
end
section
open Go.RowKit FracM
abbrev Res (α : Type) := Except (Int × Int) (α × List Tok)
/-- the bytes of the words of the grammar -/
abbrev sOpen : List UInt8 := [40]
abbrev sShut : List UInt8 := [41]
abbrev sComma : List UInt8 := [44]
abbrev sCurl : List UInt8 := [123]
abbrev sLruc : List UInt8 := [125]
abbrev sDot : List UInt8 := [46]
abbrev sAt : List UInt8 := [64]
abbrev sBy : List UInt8 := [98, 121]
def groupsT : List (List UInt8) := [[115, 117, 109], [109, 105, 110], [109, 97, 120], [99, 111, 117, 110, 116], [107, 116, 104]]
def funcsT : List (List UInt8) := [[108, 97, 115, 116], [108, 101, 97, 115, 116], [103, 114, 101, 97, 116, 101, 115, 116], [116, 111, 116, 97, 108], [109, 101, 97, 110], [105, 110, 99, 114, 101, 97, 115, 101], [114, 97, 116, 101], [107, 116, 104]]
def matchT : List (List UInt8) := [[61], [33, 61], [94, 61]]
def opersT : List (List UInt8) := [[43], [45], [42], [47]]
/-- where a word stands in a list; -1: nowhere -/
def idxT (l : List (List UInt8)) (x : List UInt8) : Int := match l.findIdx? (fun y => y == x) with | some i => (i : Int) | none => -1
def isT (ts : List Tok) (k : Int) (x : List UInt8) : Bool := match ts with | [] => false | t :: _ => t.kind == k && t.text == x
def kindT (ts : List Tok) (k : Int) : Bool := match ts with | [] => false | t :: _ => t.kind == k
def failAt (ts : List Tok) (en : Int) : Int := match ts with | [] => en | t :: _ => (t.off : Int)
def bad {α : Type} (en : Int) (ts : List Tok) (e : Int) : Res α := .error (failAt ts en, e)
def andR {α β : Type} (r : Res α) (f : α → List Tok → Res β) : Res β := match r with | .error e => .error e | .ok (a, ts) => f a ts
def headT (ts : List Tok) : Tok := match ts with | [] => ⟨0, [], 0, 0⟩ | t :: _ => t
def symbolM (en : Int) (x : List UInt8) (ts : List Tok) : Res Unit := if isT ts 3 x then .ok ((), ts.tail) else bad en ts 2
def numberM (en lo hi : Int) (ts : List Tok) : Res Int :=
 if kindT ts 1 then (if (headT ts).n < lo ∨ hi < (headT ts).n then bad en ts 5 else .ok ((headT ts).n, ts.tail)) else bad en ts 2
/-- the by clause -/
def byM (en : Int) (before : List ByteArray) (ts : List Tok) : Res ByteArray :=
 if kindT ts 0 then
  if 8 ≤ before.length then bad en ts 4
  else if (match before.getLast? with | none => false | some p => leS (bsL (headT ts).text) p) then bad en ts 8
  else .ok (bsL (headT ts).text, ts.tail)
 else bad en ts 2
def bysM : Nat → Int → List ByteArray → List Tok → Res (List ByteArray)
 | 0, en, _, ts => bad en ts 2
 | n + 1, en, before, ts => andR (byM en before ts) fun x ts' => if isT ts' 3 sComma then bysM n en (before ++ [x]) ts'.tail else .ok (before ++ [x], ts')
def gKM (en fn : Int) (ts : List Tok) : Res Int :=
 if fn = 4 then andR (symbolM en sOpen ts) fun _ ts1 => andR (numberM en 1 4096 ts1) fun k ts2 => andR (symbolM en sShut ts2) fun _ ts3 => .ok (k, ts3) else .ok (0, ts)
def gByM (en : Int) (ts : List Tok) : Res (List ByteArray) :=
 if isT ts 0 sBy then
  andR (symbolM en sOpen ts.tail) fun _ ts1 =>
   if isT ts1 3 sShut then .ok ([], ts1.tail)
   else andR (bysM (ts1.length + 1) en [] ts1) fun l ts2 => andR (symbolM en sShut ts2) fun _ ts3 => .ok (l, ts3)
 else .ok ([], ts)
def gKidM (en : Int) (ex : List Tok → Res Tree) (ts : List Tok) : Res Tree :=
 andR (symbolM en sOpen ts) fun _ ts1 => andR (ex ts1) fun t ts2 => andR (symbolM en sShut ts2) fun _ ts3 => .ok (t, ts3)
def groupM (en : Int) (ex : List Tok → Res Tree) (fn : Int) (ts : List Tok) : Res Tree :=
 andR (gKM en fn ts) fun k ts1 => andR (gByM en ts1) fun l ts2 => andR (gKidM en ex ts2) fun t ts3 => .ok (.node ⟨2, fn, 0, 0, k, 0, 0, ⟨#[]⟩, [], l⟩ [t], ts3)
/-- a selection -/
def matchM (en : Int) (before : Nat) (ts : List Tok) : Res Mat :=
 if kindT ts 0 then
  if 8 ≤ before then bad en ts 4
  else if kindT ts.tail 3 ∧ 0 ≤ idxT matchT (headT ts.tail).text then
   (if kindT ts.tail.tail 2 then .ok ((bsL (headT ts).text, idxT matchT (headT ts.tail).text, bsL (headT ts.tail.tail).text), ts.tail.tail.tail) else bad en ts.tail.tail 2)
  else bad en ts.tail 2
 else bad en ts 2
def matchsM : Nat → Int → List Mat → List Tok → Res (List Mat)
 | 0, en, _, ts => bad en ts 2
 | n + 1, en, before, ts => andR (matchM en before.length ts) fun x ts' => if isT ts' 3 sComma then matchsM n en (before ++ [x]) ts'.tail else .ok (before ++ [x], ts')
def sMatM (en : Int) (ts : List Tok) : Res (List Mat) :=
 if isT ts 3 sCurl then
  (if isT ts.tail 3 sLruc then .ok ([], ts.tail.tail) else andR (matchsM (ts.tail.length + 1) en [] ts.tail) fun l ts2 => andR (symbolM en sLruc ts2) fun _ ts3 => .ok (l, ts3))
 else .ok ([], ts)
/-- the function: its number, the window, the rank -/
def funM (en : Int) (ts : List Tok) : Res (Int × Int × Int) :=
 if kindT ts 0 ∧ 0 ≤ idxT funcsT (headT ts).text then
  if idxT funcsT (headT ts).text = 0 then .ok ((0, 0, 0), ts.tail)
  else andR (symbolM en sOpen ts.tail) fun _ ts1 => andR (numberM en 1 4096 ts1) fun w ts2 =>
   andR (if idxT funcsT (headT ts).text = 7 then andR (symbolM en sComma ts2) fun _ ts3 => numberM en 1 w ts3 else .ok (0, ts2)) fun k ts4 =>
    andR (symbolM en sShut ts4) fun _ ts5 => .ok ((idxT funcsT (headT ts).text, w, k), ts5)
 else bad en ts 2
def sFunM (en : Int) (ts : List Tok) : Res (Int × Int × Int) := if isT ts 3 sDot then funM en ts.tail else .ok ((0, 0, 0), ts)
def sOffM (en : Int) (ts : List Tok) : Res Int := if isT ts 3 sAt then numberM en 0 4096 ts.tail else .ok (0, ts)
def selectM (en : Int) (name : List UInt8) (ts : List Tok) : Res Tree :=
 andR (sMatM en ts) fun l ts1 => andR (sFunM en ts1) fun f ts2 => andR (sOffM en ts2) fun o ts3 => .ok (.node ⟨1, f.1, f.2.1, o, f.2.2, 0, 0, bsL name, l, []⟩ [], ts3)
/-- operations -/
def opAt (k : Nat) : List UInt8 := opersT.getD k []
def opFn (first : Nat) (ts : List Tok) : Nat := if isT ts 3 (opAt first) then first else first + 1
def binT (fn : Nat) (a b : Tree) : Tree := .node ⟨3, (fn : Int), 0, 0, 0, 0, 0, ⟨#[]⟩, [], []⟩ [a, b]
def opLoop (operand : List Tok → Res Tree) (first : Nat) : Nat → Tree → List Tok → Res Tree
 | 0, left, ts => .ok (left, ts)
 | n + 1, left, ts =>
  if isT ts 3 (opAt (opFn first ts)) then andR (operand ts.tail) fun right ts' => opLoop operand first n (binT (opFn first ts) left right) ts'
  else .ok (left, ts)
def operM (operand : List Tok → Res Tree) (first : Nat) (ts : List Tok) : Res Tree := andR (operand ts) fun left ts' => opLoop operand first (ts'.length + 1) left ts'
def termOf (fac : List Tok → Res Tree) (ts : List Tok) : Res Tree := operM fac 2 ts
def exprOf (fac : List Tok → Res Tree) (ts : List Tok) : Res Tree := operM (termOf fac) 0 ts
def numT (n : Int) : Tree := .node ⟨0, 0, 0, 0, 0, n, 1, ⟨#[]⟩, [], []⟩ []
def facM (en : Int) : Nat → List Tok → Res Tree
 | 0, ts => bad en ts 2
 | n + 1, ts =>
  if kindT ts 1 then .ok (numT (headT ts).n, ts.tail)
  else if isT ts 3 sOpen then andR (exprOf (facM en n) ts.tail) fun t ts1 => andR (symbolM en sShut ts1) fun _ ts2 => .ok (t, ts2)
  else if kindT ts 0 then
   (if 0 ≤ idxT groupsT (headT ts).text then groupM en (exprOf (facM en n)) (idxT groupsT (headT ts).text) ts.tail else selectM en (headT ts).text ts.tail)
  else bad en ts 2
def zeroT : Tree := .node ⟨0, 0, 0, 0, 0, 0, 0, ⟨#[]⟩, [], []⟩ []
/-- the parse of a text: the tree, the offset, the error -/
def parseT (s : List UInt8) : Tree × Int × Int :=
 if 2000 < s.length then (zeroT, 2000, 4)
 else if (lexM s.length 0 s).2.1 = 0 then
  match exprOf (facM s.length (s.length + 1)) (lexM s.length 0 s).1 with
  | .error f => (zeroT, f.1, f.2)
  | .ok (t, []) => if fitB t then (t, 0, 0) else (zeroT, s.length, 4)
  | .ok (t, x :: _) => (zeroT, x.off, 2)
 else (zeroT, (lexM s.length 0 s).2.2, (lexM s.length 0 s).2.1)
end
end Go.Proofs.YtpgdijbfkahepaaGreatDoor
