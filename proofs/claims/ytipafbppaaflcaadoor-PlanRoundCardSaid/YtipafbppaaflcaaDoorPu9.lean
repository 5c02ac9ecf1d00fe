/- Contracts, packed: Kf Qs Qg Ye Yf. -/
import Derived.Test.YtipafbppaaflcaaDoorPu6
import Derived.Test.YtipafbppaaflcaaDoorPu7
import Derived.Test.YtipafbppaaflcaaDoorPu8
import Derived.BigQuiet
import Derived.Maps.AppendAt
import Derived.Deep.AppendLies
import Derived.Laws.OwnMore
import Derived.Laws.Concat
set_option linter.unusedVariables false
set_option linter.unusedSimpArgs false
namespace Go.Proofs.YtipafbppaaflcaaDoor
section
open Go.RowKit
theorem kindex (s : ByteArray) (c : UInt8) (w : World) : Calls Tryd.prog 117 #[.string s, .int .u8 (c.toNat : Int)] w fun e w' => e = .returned (.int .i64 (Lib.indexByte s.data.toList c)) ∧ w' = w := by
 have := Tryd.strings_IndexByte s (c.toNat : Int) w
 simpa using this
theorem ext_drop (s : ByteArray) (a : Nat) : (s.extract a s.size).data.toList = s.data.toList.drop a := by
 rw [ByteArray.data_extract, Array.toList_extract, List.extract_eq_take_drop]
 rw [List.take_of_length_le]
 rw [List.length_drop, data_size]
 omega
theorem txt_ix (c : UInt8) (r : Int) (h : Lib.indexByte [92, 44, 123, 125] c = r) : (txtB c = true ∧ 33 ≤ c.toNat ∧ c.toNat ≤ 126 ∧ r < 0) ∨ (txtB c = false ∧ (c.toNat < 33 ∨ (33 ≤ c.toNat ∧ 126 < c.toNat) ∨ (33 ≤ c.toNat ∧ c.toNat ≤ 126 ∧ 0 ≤ r))) := by
 have key : ∀ n : Fin 256, (txtB (UInt8.ofNat n.1) = true ∧ 33 ≤ n.1 ∧ n.1 ≤ 126 ∧ Lib.indexByte [92, 44, 123, 125] (UInt8.ofNat n.1) < 0) ∨ (txtB (UInt8.ofNat n.1) = false ∧ (n.1 < 33 ∨ (33 ≤ n.1 ∧ 126 < n.1) ∨ (33 ≤ n.1 ∧ n.1 ≤ 126 ∧ 0 ≤ Lib.indexByte [92, 44, 123, 125] (UInt8.ofNat n.1)))) := by decide +kernel
 have := key ⟨c.toNat, c.toNat_lt⟩
 simp only [UInt8.ofNat_toNat] at this
 rw [h] at this
 exact this
set_option maxHeartbeats 1000000 in
theorem ktext_any (q i : Nat) (s : ByteArray) (w : World) (h : Src w q s i 0) (hi : i < s.size) (hs : s.size ≤ 4000) :
  Calls Tryd.prog 100 #[.pointer (some ⟨q, 0, none⟩)] w (RetK q s i (tokT i (s.data.toList.drop i)) w) := by
 obtain ⟨R, HR⟩ : ∃ R, Box (tokT i (s.data.toList.drop i) = R) := ⟨_, ⟨rfl⟩⟩
 obtain ⟨L, HL⟩ : ∃ L, Box (s.data.toList.drop (i + 1) = L) := ⟨_, ⟨rfl⟩⟩
 obtain ⟨m, HM⟩ : ∃ m, Box (Lib.indexByte L 34 = m) := ⟨_, ⟨rfl⟩⟩
 have hm := ixb_lt L 34
 have hLl : L.length = s.size - (i + 1) := by rw [← HL.out, List.length_drop, data_size]
 rw [HM.out, hLl] at hm
 have HI : Box (∀ W, Calls Tryd.prog 117 #[.string (s.extract (i + 1) s.size), .int .u8 34] W fun e w' => e = .returned (.int .i64 m) ∧ w' = W) := ⟨fun W => by
  have := kindex (s.extract (i + 1) s.size) 34 W
  rw [ext_drop, HL.out, HM.out] at this
  exact this⟩
 have HT : Box (tokT i (s.data.toList.drop i) = if m < 0 then (2, ⟨0, [], 0, 0⟩, 2) else if (L.take m.toNat).all txtB then (if 16 < m then 4 else 0, ⟨2, L.take m.toNat, 0, i⟩, m.toNat + 2) else (2, ⟨0, [], 0, 0⟩, 2)) := ⟨by
  unfold tokT
  rw [List.tail_drop, HL.out, HM.out]⟩
 rw [HR.out] at HT ⊢
 have H0 := Box.mk h
 obtain ⟨c0, c1, c2⟩ := h.c3
 have cf := h.frozen
 have hq := h.lt
 have hq2 : ¬ w.heap.size = q := by omega
 have hq3 : ¬ q = w.heap.size := by omega
 clear h
 go_enter Tryd.func100, Tryd.ntmps100
 have HW : Box (Wr q w (w.alloc (.cells zeroTok 125)) ∧ Src (w.alloc (.cells zeroTok 125)) q s i 0 ∧ Blk (w.alloc (.cells zeroTok 125)) w.heap.size 125 zeroTok) := ⟨(Wr.refl q w).alloc _, H0.out.alloc _, Blk.new _ _ _⟩
 go_upto_region 1 with (fail)
 generalize w.alloc (.cells zeroTok 125) = W at *
 clear c0 c1 c2 cf
 obtain ⟨c0, c1, c2⟩ := HW.out.2.1.c3
 go_quiet ((go_at_call 117; exact Calls.quiet_of_same (HI.out _)))
 have HW1 : Box (Wr q w (W.drewN nq) ∧ Src (W.drewN nq) q s i 0 ∧ Blk (W.drewN nq) w.heap.size 125 zeroTok) := ⟨HW.out.1.drewN nq, HW.out.2.1.drewN nq, HW.out.2.2.drewN nq⟩
 clear HW c0 c1 c2
 generalize W.drewN nq = W1 at *
 have cf := HW1.out.2.1.frozen
 obtain ⟨c0, c1, c2⟩ := HW1.out.2.1.c3
 have HW2 : ∀ er : Int, Box (Wr q w (W1.setCell ⟨q, 2, none⟩ (.int .i64 er)) ∧ Src (W1.setCell ⟨q, 2, none⟩ (.int .i64 er)) q s i er ∧ Blk (W1.setCell ⟨q, 2, none⟩ (.int .i64 er)) w.heap.size 125 zeroTok) := fun er =>
  ⟨HW1.out.1.set 2 _, by have := HW1.out.2.1.set 2 (.int .i64 er); simpa using this, HW1.out.2.2.far (p := ⟨q, 2, none⟩) hq2 _⟩
 by_cases hneg : m < 0
 ·have HT2 : Box (R = (2, ⟨0, [], 0, 0⟩, 2)) := ⟨by rw [HT.out, if_pos hneg]⟩
  have HX := HW2 2
  clear HW2
  go_upto_region 4 with (fail)
  generalize W1.setCell ⟨q, 2, none⟩ (.int .i64 2) = W2 at *
  clear c0 c1 c2 cf
  obtain ⟨t0, t1, t2, t3⟩ := HX.out.2.2.c4
  have tf := HX.out.2.2.frozen
  go_wp2_with fail
  clear t0 t1 t2 t3 tf
  have HF := Box.mk (tok_fin0 (k := 0) (t := ⟨#[]⟩) (n := 0) (o := 0) HX.out.1 HX.out.2.1 HX.out.2.2 hq)
  clear HX
  show bodyPost _ _ _ _ _ (putT W2 w.heap.size 0 ⟨#[]⟩ 0 0)
  generalize (putT W2 w.heap.size 0 ⟨#[]⟩ 0 0) = WF at HF ⊢
  obtain ⟨t0, t1, t2, t3⟩ := HF.out.1.c4
  have tf := HF.out.1.frozen
  exact bodyPost_ret (v := .agg #[.int .i64 0, .string ⟨#[]⟩, .int .i64 0, .int .i64 0]) (by simp [results, Tryd.results100, go_sem, t0, t1, t2, t3, tf]) rfl ⟨by rw [HT2.out]; rfl, by rw [HT2.out]; exact HF.out.2.2, HF.out.2.1⟩
 obtain ⟨k, rfl⟩ : ∃ k : Nat, m = k := ⟨m.toNat, by omega⟩
 have hk : i + 1 + k ≤ s.size := by omega
 rw [if_neg hneg, Int.toNat_natCast] at HT
 clear hneg
 have hk2 : (i : Int) + 1 + (k : Int) ≤ (s.size : Int) := by omega
 obtain ⟨t, Ht⟩ : ∃ t, Box (s.extract (i + 1) (i + 1 + k) = t) := ⟨_, ⟨rfl⟩⟩
 have HtL : Box (t.data.toList = L.take k) := ⟨by rw [← Ht.out, ext_bs, HL.out]; simp [bsL]⟩
 have hts : t.size = k := by
  rw [← data_size, HtL.out, List.length_take, hLl]; omega
 go_upto_region 5 with (fail)
 go_quiet (fail)
 have hex : s.extract (i + 1) (i + 1 + k) = t := Ht.out
 rw [hex]
 have HW3 : Box (Wr q w (W1.drewN nq) ∧ Src (W1.drewN nq) q s i 0 ∧ Blk (W1.drewN nq) w.heap.size 125 zeroTok) := ⟨HW1.out.1.drewN nq, HW1.out.2.1.drewN nq, HW1.out.2.2.drewN nq⟩
 clear HW1 HW2 c0 c1 c2 cf hex Ht
 generalize W1.drewN nq = W3 at *
 have cf := HW3.out.2.1.frozen
 obtain ⟨c0, c1, c2⟩ := HW3.out.2.1.c3
 have HW2 : ∀ er : Int, Box (Wr q w (W3.setCell ⟨q, 2, none⟩ (.int .i64 er)) ∧ Src (W3.setCell ⟨q, 2, none⟩ (.int .i64 er)) q s i er ∧ Blk (W3.setCell ⟨q, 2, none⟩ (.int .i64 er)) w.heap.size 125 zeroTok) := fun er =>
  ⟨HW3.out.1.set 2 _, by have := HW3.out.2.1.set 2 (.int .i64 er); simpa using this, HW3.out.2.2.far (p := ⟨q, 2, none⟩) hq2 _⟩
 go_wp2_with fail
 go_loop [43] (fun v => ∃ j : Nat, v = .int .i64 j ∧ j ≤ k ∧ Hid (((L.take k).drop j).all txtB = (L.take k).all txtB)) (fun v => k - (intOf v).toNat)
 case atStart => exact ⟨0, rfl, by omega, by show ((L.take k).drop 0).all txtB = _; rw [List.drop_zero]⟩
 case round =>
  obtain ⟨j, rfl, hj, HJ⟩ := hrel
  by_cases hlt : j < k
  ·have hlt2 : (j : Int) < (k : Int) := by omega
   have hjt : j < t.size := by omega
   have hjL : (L.take k).drop j = t[j] :: (L.take k).drop (j + 1) := by rw [← HtL.out]; exact kdrop_at hjt
   have HJ2 : Hid ((txtB t[j] && ((L.take k).drop (j + 1)).all txtB) = (L.take k).all txtB) := by
    have := HJ.out
    rw [hjL, List.all_cons] at this
    exact this
   obtain ⟨r, Hr⟩ : ∃ r, Box (Lib.indexByte [92, 44, 123, 125] t[j] = r) := ⟨_, ⟨rfl⟩⟩
   have HIc : Box (∀ W, Calls Tryd.prog 117 #[.string ⟨#[92, 44, 123, 125]⟩, .int .u8 (t[j].toNat : Int)] W fun e w' => e = .returned (.int .i64 r) ∧ w' = W) := ⟨fun W => by
    have := kindex ⟨#[92, 44, 123, 125]⟩ t[j] W
    rw [show (⟨#[92, 44, 123, 125]⟩ : ByteArray).data.toList = [92, 44, 123, 125] from rfl, Hr.out] at this
    exact this⟩
   have HTX := txt_ix t[j] r Hr.out
   have hlt3 : (j : Int) < (t.size : Int) := by omega
   clear hjL HJ
   rcases HTX with ⟨h1, h2, h3, h4⟩ | ⟨h1, hbad⟩
   ·have HJ3 : Hid (((L.take k).drop (j + 1)).all txtB = (L.take k).all txtB) := by have := HJ2.out; rw [h1, Bool.true_and] at this; exact this
    clear HJ2 h1 HW2
    go_wp2_with (go_at_call 117; (with_reducible refine (HIc.out _).mono ?_); rintro e w7 ⟨rfl, hw⟩; subst w7)
    go_round
    case rel => exact ⟨j + 1, by go_num, by omega, HJ3.out⟩
    case measure => simp [intOf]; omega
   ·have HT2 : Box (R = (2, ⟨0, [], 0, 0⟩, 2)) := ⟨by
     have := HJ2.out
     rw [h1, Bool.false_and] at this
     rw [HT.out, ← this]; rfl⟩
    have HX := HW2 2
    clear HW2 HJ2 h1
    rcases hbad with hb1 | ⟨hb1, hb2⟩ | ⟨hb1, hb2, hb3⟩
    all_goals
     go_upto_region 12 with (go_at_call 117; (with_reducible refine (HIc.out _).mono ?_); rintro e w7 ⟨rfl, hw⟩; subst w7)
     generalize W3.setCell ⟨q, 2, none⟩ (.int .i64 2) = W2 at *
     clear c0 c1 c2 cf
     obtain ⟨t0, t1, t2, t3⟩ := HX.out.2.2.c4
     have tf := HX.out.2.2.frozen
     go_wp2_with fail
     clear t0 t1 t2 t3 tf
     have HF := Box.mk (tok_fin0 (k := 0) (t := ⟨#[]⟩) (n := 0) (o := 0) HX.out.1 HX.out.2.1 HX.out.2.2 hq)
     clear HX
     show bodyPost _ _ _ _ _ (putT W2 w.heap.size 0 ⟨#[]⟩ 0 0)
     generalize (putT W2 w.heap.size 0 ⟨#[]⟩ 0 0) = WF at HF ⊢
     obtain ⟨t0, t1, t2, t3⟩ := HF.out.1.c4
     have tf := HF.out.1.frozen
     exact bodyPost_ret (v := .agg #[.int .i64 0, .string ⟨#[]⟩, .int .i64 0, .int .i64 0]) (by simp [results, Tryd.results100, go_sem, t0, t1, t2, t3, tf]) rfl ⟨by rw [HT2.out]; rfl, by rw [HT2.out]; exact HF.out.2.2, HF.out.2.1⟩
  ·obtain rfl : j = k := by omega
   have hall : (L.take j).all txtB = true := by
    have := HJ.out
    rw [List.drop_eq_nil_of_le (by rw [List.length_take]; omega)] at this
    rw [← this]; rfl
   have HTB : Box (t = bsL (L.take j)) := ⟨by unfold bsL; rw [← HtL.out]⟩
   rw [if_pos hall] at HT
   have hlt3 : ¬ (j : Int) < (t.size : Int) := by omega
   clear HJ hall
   by_cases hbig : (16 : Int) < (j : Int)
   ·have HX := HW2 4
    have HT2 : Box (R = (4, ⟨2, L.take j, 0, i⟩, j + 2)) := ⟨by rw [HT.out, if_pos hbig]⟩
    clear HW2
    go_upto_region 16 with (fail)
    generalize W3.setCell ⟨q, 2, none⟩ (.int .i64 4) = W2 at *
    clear c0 c1 c2 cf
    obtain ⟨c0, c1, c2⟩ := HX.out.2.1.c3
    obtain ⟨t0, t1, t2, t3⟩ := HX.out.2.2.c4
    have tf := HX.out.2.2.frozen
    go_wp2_with fail
    clear t0 t1 t2 t3 tf
    have HF := Box.mk (tok_fin0 (k := 2) (t := t) (n := 0) (o := i) HX.out.1 HX.out.2.1 HX.out.2.2 hq)
    clear HX
    show bodyPost _ _ _ _ _ (putT W2 w.heap.size 2 t 0 i)
    generalize (putT W2 w.heap.size 2 t 0 i) = WF at HF ⊢
    obtain ⟨t0, t1, t2, t3⟩ := HF.out.1.c4
    have tf := HF.out.1.frozen
    exact bodyPost_ret (v := .agg #[.int .i64 2, .string t, .int .i64 0, .int .i64 i]) (by simp [results, Tryd.results100, go_sem, t0, t1, t2, t3, tf]) rfl ⟨by rw [HT2.out, HTB.out], by rw [HT2.out]; exact HF.out.2.2, HF.out.2.1⟩
   ·have HT2 : Box (R = (0, ⟨2, L.take j, 0, i⟩, j + 2)) := ⟨by rw [HT.out, if_neg hbig]⟩
    clear HW2
    go_upto_region 16 with (fail)
    obtain ⟨t0, t1, t2, t3⟩ := HW3.out.2.2.c4
    have tf := HW3.out.2.2.frozen
    go_wp2_with fail
    clear t0 t1 t2 t3 tf
    have HF := Box.mk (tok_fin0 (k := 2) (t := t) (n := 0) (o := i) HW3.out.1 HW3.out.2.1 HW3.out.2.2 hq)
    clear HW3
    show bodyPost _ _ _ _ _ (putT W3 w.heap.size 2 t 0 i)
    generalize (putT W3 w.heap.size 2 t 0 i) = WF at HF ⊢
    obtain ⟨t0, t1, t2, t3⟩ := HF.out.1.c4
    have tf := HF.out.1.frozen
    exact bodyPost_ret (v := .agg #[.int .i64 2, .string t, .int .i64 0, .int .i64 i]) (by simp [results, Tryd.results100, go_sem, t0, t1, t2, t3, tf]) rfl ⟨by rw [HT2.out, HTB.out], by rw [HT2.out]; exact HF.out.2.2, HF.out.2.1⟩
end
section
open Go.RowKit
/-- block b is a row of cells of element type t -/
def TyAt (w : World) (b : Nat) (t : TypeId) : Prop := ∃ cs fz, w.heap[b]? = some (.cells cs t fz)
/-- the strings fit, the matchers are few -/
def MsOk (ms : List Mat) : Prop := ms.length ≤ 1000 ∧ ∀ x ∈ ms, x.1.size ≤ maxLen ∧ x.2.2.size ≤ maxLen
theorem matInfo : (Tryd.prog.info? 71).map (fun i => (i.zero, i.size, i.bytes)) = some (some (.agg #[.string ⟨#[]⟩, .int .i64 0, .string ⟨#[]⟩]), 3, 40) := by kernel_rfl
theorem own_form {w : World} {B t size n : Nat} {v : Value} {xs : List Value} (h : w.ownsRow B t size v n xs) : ∃ A c, v = .slice A n c := by
 rcases h.2 with ⟨rfl, rfl⟩ | ⟨g, cap, cur, rfl, _⟩
 ·exact ⟨_, _, rfl⟩
 ·exact ⟨_, _, rfl⟩
theorem Fr.grown {base : Nat} {T : List TypeId} {w0 w w' : World} {row : Option Nat} {t : TypeId} (h : Fr base T w0 w) (hg : w.grownBy w' row) (hr : ∀ g, row = some g → base ≤ g ∧ TyAt w g t) (hT : t ∈ T) : Fr base T w0 w' := by
 refine h.trans ⟨hg.os, hg.tape, hg.output, hg.size, fun k hk hc => hg.block k hk ?_⟩
 intro e
 obtain ⟨hb, cs, fz, ht⟩ := hr k e.symm
 rcases hc with hc | ⟨cs', t', fz', hc, hn⟩
 ·omega
 ·rw [ht] at hc; cases hc; exact hn hT
theorem own_below {w w' : World} {B t size n : Nat} {v : Value} {xs : List Value} (h : w.ownsRow B t size v n xs) (hb : Below w.heap.size w w') : w'.ownsRow B t size v n xs :=
 h.kept (row := none) ⟨hb.os, hb.tape, hb.output, hb.size, fun i hi _ => hb.block i hi⟩ (by cases hv : v.ownBlock <;> simp)
theorem own_ty {w : World} {B t size n : Nat} {v : Value} {xs : List Value} (h : w.ownsRow B t size v n xs) : ∀ g, v.ownBlock = some g → B ≤ g ∧ TyAt w g t := by
 intro g hg
 rcases h.2 with ⟨rfl, _⟩ | ⟨g', cap, cur, rfl, hb, hh, _⟩
 ·simp [Value.ownBlock] at hg
 ·simp [Value.ownBlock] at hg; subst hg; exact ⟨hb, cur, _, hh⟩
/-- a row of the call's own has grown: blocks of other types are as they were -/
theorem grow_fr {W W' w9 : World} {base n t size : Nat} {v : Value} {xs : List Value} (hown : W.ownsRow base t size v n xs) (hb : Below W.heap.size W W') (hg : W'.grownBy w9 v.ownBlock) : Fr base [t] W w9 :=
 Fr.grown (t := t) (Fr.of_below hb) hg (fun g hg => (own_ty (own_below hown hb)) g hg) (by simp)
end
section
open Go.RowKit
def I64 (x : Int) : Prop := -9223372036854775808 ≤ x ∧ x ≤ 9223372036854775807
def Ints (w : World) (base : Nat) (v : Value) (l : List Int) : Prop := Seq w base 3 1 v l.length (l.map (Value.int .i64)) ∧ ∀ x ∈ l, I64 x
def Strs (w : World) (base : Nat) (v : Value) (l : List ByteArray) : Prop := Seq w base 9 1 v l.length (l.map Value.string)
theorem Ints.nil (w : World) (base : Nat) : Ints w base (.slice none 0 0) [] := ⟨Seq.nil _ _ _ _, fun x hx => by simp at hx⟩
theorem Ints.below {w w' : World} {base : Nat} {v : Value} {l : List Int} (h : Ints w base v l) (f : Below w.heap.size w w') : Ints w' base v l := ⟨h.1.below f, h.2⟩
theorem Seq.len {w : World} {base t size m n c : Nat} {A : Option Addr} {xs : List Value} (h : Seq w base t size (.slice A n c) m xs) : n = m ∧ n ≤ 9223372036854775807 := by
 obtain ⟨_, A', c', hv, h1, h2, _⟩ := h
 cases hv
 unfold maxLen at h2
 exact ⟨rfl, by omega⟩
theorem Seq.at1 {w : World} {base t n c : Nat} {A : Option Addr} {m : Nat} {xs : List Value} (h : Seq w base t 1 (.slice A n c) m xs) (k : Nat) (u : Value) (hk : xs[k]? = some u) : ∃ b off, A = some ⟨b, off, none⟩ ∧ b < w.heap.size ∧ w.cell? ⟨b, off + k, none⟩ = some u := by
 obtain ⟨h1, A', c', hv, _, _, h2⟩ := h
 cases hv
 have hlt : k < xs.length := (List.getElem?_eq_some_iff.1 hk).1
 obtain ⟨b, off, rfl, hf, hx⟩ := h2 (by omega)
 exact ⟨b, off, rfl, hf.1, hx k u hk⟩
/-- an argument that is a slice of integers -/
theorem Ints.of_row {w : World} {x : Addr} {len cap : Nat} {zs : List Int} (hl : len ≤ cap) (hm : cap ≤ maxLen) (hz : zs.length = cap) (hcell : ∀ i, i < zs.length → w.cell? (x.add i) = some (.int .i64 (zs.getD i 0))) (hwf : ∀ n ∈ zs, (Lit.int .i64 n).wf = true) :
  Ints w w.heap.size (.slice (some x) len cap) (zs.take len) := by
 have hl' : (zs.take len).length = len := by rw [List.length_take]; omega
 refine ⟨⟨by simp, some x, cap, by rw [hl'], by omega, hm, fun h0 => ?_⟩, fun y hy => ?_⟩
 ·have h1 := hcell 0 (by omega)
  have hsp : x.spot = none := by
   cases hs : x.spot with
   | none => rfl
   | some q =>
    simp only [Addr.add, if_pos, World.cell?] at h1
    split at h1
    ·simp [hs] at h1
    ·cases h1
  obtain ⟨b, off, sp⟩ := x
  simp only at hsp
  subst hsp
  have hb : b < w.heap.size := World.block_lt_of_cell? w ⟨b, off, none⟩ (u := .int .i64 (zs.getD 0 0)) (by simpa [Addr.add] using h1)
  refine ⟨b, off, rfl, ⟨hb, .inl hb⟩, fun j u hu => ?_⟩
  rw [List.getElem?_map] at hu
  obtain ⟨y, hy, rfl⟩ := Option.map_eq_some_iff.1 hu
  obtain ⟨hjl, hjy⟩ := List.getElem?_eq_some_iff.1 hy
  have hj : j < zs.length := by rw [List.length_take] at hjl; omega
  have := hcell j hj
  have e : zs.getD j 0 = y := by rw [← hjy, List.getElem_take]; simp [List.getD_eq_getElem?_getD, hj]
  rw [e] at this
  unfold Addr.add at this
  split at this
  ·next h => subst h; exact this
  ·exact this
 ·have := hwf y (List.mem_of_mem_take hy)
  simpa [I64, Lit.wf, IntKind.min, IntKind.max, IntKind.signed, IntKind.bits] using this
/-- 'Pick' -/
def pickZ (l : List Int) (i most : Int) : Int := if i < 0 ∨ (l.length : Int) ≤ i then 0 else around (l.getD i.toNat 0) most
theorem pick_bd (l : List Int) (i most : Int) (h : 1 ≤ most) : 0 ≤ pickZ l i most ∧ pickZ l i most < most := by
 unfold pickZ
 split
 ·omega
 ·exact around_bd _ _ h
set_option maxHeartbeats 400000 in
theorem pick_any (A : Option Addr) (n c base : Nat) (l : List Int) (i most : Int) (w : World) (h : Ints w base (.slice A n c) l) (h1 : 1 ≤ most) (h2 : most ≤ 9223372036854775807) :
  Calls Tryd.prog 88 #[.slice A n c, .int .i64 i, .int .i64 most] w fun e w' => e = .returned (.int .i64 (pickZ l i most)) ∧ w = w' := by
 obtain ⟨hn, hm⟩ := h.1.len
 by_cases h0 : i < 0
 ·have E : Hid (pickZ l i most = 0) := if_pos (.inl h0)
  clear h hn
  go_enter Tryd.func88, Tryd.ntmps88
  go_wp2
  go_ret
  exact ⟨ret_int (by rw [E.out]), rfl⟩
 by_cases h3 : (n : Int) ≤ i
 ·have E : Hid (pickZ l i most = 0) := if_pos (.inr (by omega))
  clear h hn
  go_enter Tryd.func88, Tryd.ntmps88
  go_wp2
  go_ret
  exact ⟨ret_int (by rw [E.out]), rfl⟩
 obtain ⟨k, rfl⟩ : ∃ k : Nat, i = (k : Int) := ⟨i.toNat, by omega⟩
 have hk : k < l.length := by omega
 have hk' : k < n := by omega
 have hx : l[k]? = some l[k] := List.getElem?_eq_getElem hk
 have E : Hid (pickZ l (k : Int) most = around l[k] most) := by
  unfold pickZ
  rw [Hid, if_neg (by omega)]
  simp [List.getD_eq_getElem?_getD, hx]
 obtain ⟨b, off, rfl, hb, hc⟩ := h.1.at1 k (.int .i64 l[k]) (by rw [List.getElem?_map, hx]; rfl)
 have hr := h.2 l[k] (List.getElem_mem hk)
 obtain ⟨hr1, hr2⟩ := hr
 generalize l[k] = z at *
 clear h hn hx
 go_enter Tryd.func88, Tryd.ntmps88
 go_wp2_with (go_at_call 17; refine (around_any _ _ _ hr1 hr2 h1 h2).mono ?_; rintro e w' ⟨rfl, rfl⟩)
 go_ret
 exact ⟨ret_int (by rw [E.out]), rfl⟩
theorem names_any (w : World) : Calls Tryd.prog 90 #[] w fun e w' => e = .returned (.slice (some ⟨w.heap.size, 0, none⟩) 6 6) ∧ w' = w.alloc (.cells #[.string ⟨#[97]⟩, .string ⟨#[97, 98]⟩, .string ⟨#[98]⟩, .string ⟨#[106, 111, 98]⟩, .string ⟨#[120, 95, 49]⟩, .string ⟨#[122, 111, 110, 101]⟩] 9) := by
 go_enter Tryd.func90, Tryd.ntmps90
 go_wp2
 go_ret
 exact ⟨rfl, rfl⟩
theorem values_any (w : World) : Calls Tryd.prog 110 #[] w fun e w' => e = .returned (.slice (some ⟨w.heap.size, 0, none⟩) 6 6) ∧ w' = w.alloc (.cells #[.string ⟨#[97]⟩, .string ⟨#[97, 98]⟩, .string ⟨#[98]⟩, .string ⟨#[120, 49]⟩, .string ⟨#[126, 33]⟩, .string ⟨#[48]⟩] 9) := by
 go_enter Tryd.func110, Tryd.ntmps110
 go_wp2
 go_ret
 exact ⟨rfl, rfl⟩
end
section
open Go.RowKit
end
section
open Go.RowKit
/-- of the old blocks only g may have turned -/
structure Only (g : Nat) (w w' : World) : Prop where
 os : w'.os = w.os
 tape : w'.tape = w.tape
 output : w'.output = w.output
 size : w.heap.size ≤ w'.heap.size
 block : ∀ k, k < w.heap.size → k ≠ g → w'.heap[k]? = w.heap[k]?
theorem Only.of_below {g : Nat} {w w' : World} (h : Below w.heap.size w w') : Only g w w' := ⟨h.os, h.tape, h.output, h.size, fun k hk _ => h.block k hk⟩
theorem Only.trans {g : Nat} {a b c : World} (h : Only g a b) (k : Only g b c) : Only g a c :=
 ⟨k.os.trans h.os, k.tape.trans h.tape, k.output.trans h.output, Nat.le_trans h.size k.size, fun i hi hn => by rw [k.block i (Nat.lt_of_lt_of_le hi h.size) hn, h.block i hi hn]⟩
theorem Only.below {g B : Nat} {w w' : World} (h : Only g w w') (hg : B ≤ g) (hB : B ≤ w.heap.size) : Below B w w' := ⟨h.os, h.tape, h.output, h.size, fun k hk => h.block k (by omega) (by omega)⟩
theorem Only.blk {g k : Nat} {w w' : World} {t : TypeId} {cs : Array Value} (h : Only g w w') (hb : Blk w k t cs) (hn : k ≠ g) : Blk w' k t cs := (h.block k hb.lt hn).trans hb
theorem Only.setCell {g : Nat} {w : World} (o : Nat) (u : Value) : Only g w (w.setCell ⟨g, o, none⟩ u) := by
 refine ⟨rfl, rfl, rfl, by simp [World.setCell], fun k hk hn => ?_⟩
 exact Below.heap_setCell w ⟨g, o, none⟩ u k hn
theorem Only.newCell {g : Nat} {w W : World} (h : Only g w W) {p : Addr} (hp : w.heap.size ≤ p.block) (u : Value) : Only g w (W.setCell p u) :=
 ⟨h.os, h.tape, h.output, by have := h.size; simpa [World.setCell] using this, fun k hk hn => (Below.heap_setCell W p u k (by omega)).trans (h.block k hk hn)⟩
end
end Go.Proofs.YtipafbppaaflcaaDoor
