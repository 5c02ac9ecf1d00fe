/- Contracts, packed: Kj. -/
import Derived.Test.YtpgdijbfkahepaaGreatDoorPd4
import Derived.Test.YtpgdijbfkahepaaGreatDoorPd21
import Derived.Sort.CutIn
import Derived.Sort.BigQuietIn
set_option linter.unusedVariables false
set_option linter.unusedSimpArgs false
namespace Go.Proofs.YtpgdijbfkahepaaGreatDoor
section
open Go.RowKit Go.Shelf
attribute [local go_sem] Oper.semAt_some
abbrev lst (s : ByteArray) : List UInt8 := s.data.toList
/-- what is left of a text from the offset i on -/
def lexF (s : ByteArray) (i : Nat) : List Tok × Int × Nat := lexM (s.size - i) i ((lst s).drop i)
theorem lexF_end {s : ByteArray} {i : Nat} (h : s.size ≤ i) : lexF s i = ([], 0, i) := by
 unfold lexF; rw [List.drop_eq_nil_of_le (by rw [data_size]; exact h), show s.size - i = 0 by omega, lexM]
theorem lexF_spc {s : ByteArray} {i : Nat} (h : i < s.size) (hc : spcB s[i] = true) : lexF s i = lexF s (i + 1) := by
 unfold lexF
 obtain ⟨m, hm⟩ : ∃ m, s.size - i = m + 1 := ⟨s.size - i - 1, by omega⟩
 rw [hm, kdrop_at h, lexM, if_pos hc, show s.size - (i + 1) = m by omega]
theorem lexF_bad {s : ByteArray} {i : Nat} (h : i < s.size) (hc : spcB s[i] = false) (r : Int × Tok × Nat) (hr : tokM i s[i] ((lst s).drop (i + 1)) = r) (he : r.1 ≠ 0) : lexF s i = ([], r.1, i) := by
 unfold lexF
 obtain ⟨m, hm⟩ : ∃ m, s.size - i = m + 1 := ⟨s.size - i - 1, by omega⟩
 rw [hm, kdrop_at h, lexM, if_neg (by rw [hc]; simp), hr, if_neg he]
theorem lexF_tok {s : ByteArray} {i : Nat} (h : i < s.size) (hc : spcB s[i] = false) (r : Int × Tok × Nat) (hr : tokM i s[i] ((lst s).drop (i + 1)) = r) (he : r.1 = 0) : lexF s i = (r.2.1 :: (lexF s (i + r.2.2)).1, (lexF s (i + r.2.2)).2) := by
 have hp := tok_pos (hr ▸ he)
 rw [hr] at hp
 unfold lexF
 obtain ⟨m, hm⟩ : ∃ m, s.size - i = m + 1 := ⟨s.size - i - 1, by omega⟩
 rw [hm, kdrop_at h, lexM, if_neg (by rw [hc]; simp), hr, if_pos he]
 rw [← kdrop_at h, List.drop_drop]
 rw [lexM_more m (s.size - (i + r.2.2)) _ _ (by rw [List.length_drop, data_size]; omega) (by rw [List.length_drop, data_size]; omega)]
theorem lexF_all (s : ByteArray) : lexF s 0 = lexM s.size 0 (lst s) := by unfold lexF; rw [Nat.sub_zero, List.drop_zero]
/-- the tokens that have come, and what is left -/
structure Eac (s : ByteArray) (q : Nat) (J : List Tok → World → Prop) (W : World) (pre : List Tok) (i : Nat) : Prop where
 src : Src W q s i 0
 le : i ≤ s.size
 cnt : pre.length ≤ i
 inv : J pre W
 eq : lexM s.size 0 (lst s) = (pre ++ (lexF s i).1, (lexF s i).2)
def kAt (q : Nat) (W : World) : Nat := (intOf ((W.cell? ⟨q, 1, none⟩).getD undef)).toNat
theorem kAt_eq {W : World} {q i : Nat} {s : ByteArray} {e : Int} (h : Src W q s i e) : kAt q W = i := by unfold kAt; rw [h.c3.2.1]; simp [intOf]
set_option maxRecDepth 100000 in
set_option maxHeartbeats 4000000 in
theorem keach_in (n : Nat) (hn : 1 ≤ n) (l q : Nat) (s : ByteArray) (J : List Tok → World → Prop) (hT : ∀ pre A B, J pre A → Wr q A B → J pre B)
  (hY : ∀ pre x W0 W1, pre.length < 4000 → J pre W0 → Wr q W0 W1 → YieldAt Fence.wide (n - 1) Tryz.prog l #[.agg (tokC x)] W1 fun e W' => e = .returned (.bool true) ∧ J (pre ++ [x]) W' ∧ W'.heap[q]? = W1.heap[q]? ∧ ∀ k, W0.heap.size ≤ k → k < W1.heap.size → W'.heap[k]? = W1.heap[k]?)
  (W : World) (hS : Src W q s 0 0) (h0 : J [] W) (hs : s.size ≤ 4000) :
  CallsIn Fence.wide n Tryz.prog 58 #[.pointer (some ⟨q, 0, none⟩), .func (.yield l) #[] #[]] W fun e W' => (∃ v, e = .returned v) ∧
   ∃ ys, (ys = (lexM s.size 0 (lst s)).1 ∧ Src W' q s (lexM s.size 0 (lst s)).2.2 (lexM s.size 0 (lst s)).2.1) ∧ J ys W' := by
 refine callsIn_of_wp Tryz.func58 rfl trivial ?_ rfl
 simp only [Tryz.ntmps58, List.size_toArray, List.length_cons, List.length_nil, Nat.reduceAdd, Nat.reduceSub, Array.replicate_succ, Array.replicate_zero, List.push_toArray, List.append_toArray, List.nil_append, List.cons_append]
 gi_wp2
 gi_loopw [] (fun wr => ∃ pre i, Eac s q J wr pre i) (fun wr => s.size - kAt q wr)
 case atStart => exact ⟨[], 0, hS, Nat.zero_le _, Nat.le_refl _, h0, by rw [lexF_all]; rfl⟩
 case round =>
  obtain ⟨pre, i, hE⟩ := hrel
  have HE := Box.mk hE
  have hi := hE.le
  have hka := kAt_eq hE.src
  obtain ⟨c0, c1, c2⟩ := hE.src.c3
  have cf := hE.src.frozen
  have hq := hE.src.lt
  clear hE
  by_cases hlt : i < s.size
  ·have hlt2 : (i : Int) < (s.size : Int) := by omega
   gi_upto_region 0 with (fail)
   gi_quiet (fail)
   have HW1 : Box (Wr q wr (wr.drewN nq) ∧ Src (wr.drewN nq) q s i 0) := ⟨(Wr.refl q wr).drewN nq, HE.out.src.drewN nq⟩
   have hz1 : wr.heap.size ≤ (wr.drewN nq).heap.size := HW1.out.1.ko.size
   clear c0 c1 c2 cf
   generalize wr.drewN nq = W1 at HW1 hz1 ⊢
   have HW2 : Box (Wr q wr (W1.alloc (.cells zeroTok 103)) ∧ Src (W1.alloc (.cells zeroTok 103)) q s i 0 ∧ Blk (W1.alloc (.cells zeroTok 103)) W1.heap.size 103 zeroTok) := ⟨HW1.out.1.alloc _, HW1.out.2.alloc _, Blk.new _ _ _⟩
   gi_upto_region 3 with (fail)
   clear HW1
   generalize W1.alloc (.cells zeroTok 103) = W2 at HW2 ⊢
   generalize W1.heap.size = tb at *
   obtain ⟨c0, c1, c2⟩ := HW2.out.2.1.c3
   gi_quiet (fail)
   have HW3 : Box (Wr q wr (W2.drewN nq) ∧ Src (W2.drewN nq) q s i 0 ∧ Blk (W2.drewN nq) tb 103 zeroTok) := ⟨HW2.out.1.drewN nq, HW2.out.2.1.drewN nq, HW2.out.2.2.drewN nq⟩
   clear HW2 c0 c1 c2
   generalize W2.drewN nq = W3 at HW3 ⊢
   have htb : ¬ tb = q := by omega
   have htb2 : ¬ q = tb := by omega
   --MARK
   have CL : Box (∀ W, CallsIn Fence.wide (n - 1) Tryz.prog 71 #[.int .u8 (s[i].toNat : Int)] W fun e w' => e = .returned (.bool (letB s[i])) ∧ W = w') := ⟨fun W => callsIn_wide.2 (kletter_any _ W)⟩
   have CD : Box (∀ W, CallsIn Fence.wide (n - 1) Tryz.prog 73 #[.int .u8 (s[i].toNat : Int)] W fun e w' => e = .returned (.bool (digB s[i])) ∧ W = w') := ⟨fun W => callsIn_wide.2 (kdigit_any _ W)⟩
   by_cases hsp0 : s[i].toNat = 9 ∨ s[i].toNat = 10 ∨ s[i].toNat = 13 ∨ s[i].toNat = 32
   ·have hsp : spcB s[i] = true := by unfold spcB; rcases hsp0 with h | h | h | h <;> simp [h]
    have heq := HE.out.eq
    rw [lexF_spc hlt hsp] at heq
    have HEQ := Box.mk heq
    obtain ⟨c0, c1, c2⟩ := HW3.out.2.1.c3
    have cf := HW3.out.2.1.frozen
    clear heq hsp CL CD
    rcases hsp0 with hc | hc | hc | hc
    all_goals
     gi_wp2
     have HN : Box (Eac s q J (W3.setCell ⟨q, 1, none⟩ (.int .i64 ((i : Int) + 1))) pre (i + 1)) := ⟨⟨by have := HW3.out.2.1.set 1 (.int .i64 ((i : Int) + 1)); simpa using this, by omega, by have := HE.out.cnt; omega, hT _ _ _ HE.out.inv (HW3.out.1.set 1 _), HEQ.out⟩⟩
     exact ⟨⟨pre, i + 1, HN.out⟩, by rw [hka, kAt_eq HN.out.src]; omega⟩
   obtain ⟨n9, n10, n13, n32⟩ : ¬ s[i].toNat = 9 ∧ ¬ s[i].toNat = 10 ∧ ¬ s[i].toNat = 13 ∧ ¬ s[i].toNat = 32 := by omega
   have hsp : spcB s[i] = false := by unfold spcB; simp [n9, n10, n13, n32]
   have e9 : ((s[i].toNat : Int) == 9) = false := by rw [beq_eq_false_iff_ne]; omega
   have e10 : ((s[i].toNat : Int) == 10) = false := by rw [beq_eq_false_iff_ne]; omega
   have e13 : ((s[i].toNat : Int) == 13) = false := by rw [beq_eq_false_iff_ne]; omega
   have e32 : ((s[i].toNat : Int) == 32) = false := by rw [beq_eq_false_iff_ne]; omega
   clear hsp0 n9 n10 n13 n32
   by_cases hl : letB s[i] = true
   ·rw [hl] at CL
    obtain ⟨r, hr⟩ : ∃ r, tokW i (s[i] :: (lst s).drop (i + 1)) = r := ⟨_, rfl⟩
    have hrM : tokM i s[i] ((lst s).drop (i + 1)) = r := by unfold tokM; rw [if_pos hl]; exact hr
    have hfact : r.1 = 0 → 0 + r.2.1.text.length = r.2.2 ∧ r.2.2 ≤ s.size - i := fun h => by
     have hf := tokW_f i (s[i] :: (lst s).drop (i + 1))
     rw [hr] at hf
     simp only [List.length_cons, List.length_drop, data_size] at hf
     omega
    have hpos : r.1 = 0 → 1 ≤ r.2.2 := fun h => hrM ▸ tok_pos (by rw [hrM]; exact h)
    have CT : Box (∀ W, Src W q s i 0 → CallsIn Fence.wide (n - 1) Tryz.prog 72 #[.pointer (some ⟨q, 0, none⟩)] W (RetK q s i r W)) := ⟨fun W h => by
     have := kword_any q i s W h hi hs
     rw [kdrop_at hlt, hr] at this
     exact callsIn_wide.2 this⟩
    have HRM := Box.mk hrM
    obtain ⟨er, tk, cn⟩ := r
    simp only at hfact hpos
    clear hr hrM
    gi_upto_region 14 with (first
      | (refine ⟨trivial, ?_⟩; gi_at_call 71; (with_reducible refine (CL.out _).mono ?_); rintro e w7 ⟨rfl, hw⟩; subst w7)
      | (refine ⟨trivial, ?_⟩; gi_at_call 73; (with_reducible refine (CD.out _).mono ?_); rintro e w7 ⟨rfl, hw⟩; subst w7)
      | (refine ⟨trivial, ?_⟩; gi_at_call 72; (with_reducible refine (CT.out _ HW3.out.2.1).mono ?_); rintro e w5 ⟨rfl, hs5, hr5⟩; have HB5 : Blk w5 tb 103 zeroTok := (hr5.block tb HW3.out.2.2.lt htb).trans HW3.out.2.2; obtain ⟨t0, t1, t2, t3⟩ := HB5.c4; have tf := HB5.frozen))
    have HW5 := Box.mk (tok_put (t := tk) HW3.out.1 HW3.out.2.2 hr5 hs5 hz1 htb2)
    clear HW3 hs5 hr5 CT CL CD HB5 t0 t1 t2 t3 tf
    show Code.wpIn _ _ _ _ _ _ (putT w5 tb tk.kind (bsL tk.text) tk.n tk.off)
    generalize putT w5 tb tk.kind (bsL tk.text) tk.n tk.off = W5 at HW5 ⊢
    obtain ⟨c0, c1, c2⟩ := HW5.out.2.1.c3
    have cf := HW5.out.2.1.frozen
    obtain ⟨t0, t1, t2, t3⟩ := HW5.out.2.2.c4
    by_cases he : er = 0
    ·obtain ⟨hf1, hf2⟩ := hfact he
     have hp := hpos he
     subst he
     have htlt := HW5.out.2.2.lt
     obtain ⟨fn, tmps, assign, body, hy, hR⟩ := hY pre tk wr W5 (by have := HE.out.cnt; omega) HE.out.inv HW5.out.1
     have HR := Box.mk hR
     clear hR hfact hpos
     gi_wp2_with (refine HR.out.mono ?_; rintro e W6 ⟨rfl, hJ6, hq6, hk6⟩)
     have HS6 : Box (Src W6 q s i 0 ∧ J (pre ++ [tk]) W6) := ⟨hq6.trans HW5.out.2.1, hJ6⟩
     have ht1 : W6.cell? ⟨tb, 1, none⟩ = some (.string (bsL tk.text)) := (World.cell?_of_block (a := ⟨tb, 1, none⟩) (hk6 tb hz1 htlt)).trans t1
     clear c0 c1 c2 cf t0 t1 t2 t3 HW5 hy HR hJ6 hq6 hk6
     obtain ⟨c0, c1, c2⟩ := HS6.out.1.c3
     have cf := HS6.out.1.frozen
     have e0 : ((bsL tk.text).size : Int) = (cn : Int) - 0 := by rw [bsL_size]; omega
     have e1 : IntKind.i64.wrap ((0 : Int) + ((bsL tk.text).size : Int)) = (cn : Int) := by rw [IntKind.wrap_i64, e0]; omega
     have e3 : IntKind.i64.wrap ((0 : Int) + ((cn : Int) - 0)) = (cn : Int) := by rw [IntKind.wrap_i64]; omega
     have e4 : IntKind.i64.wrap ((bsL tk.text).size : Int) = (cn : Int) - 0 := by rw [IntKind.wrap_i64, e0]; omega
     have e2 : IntKind.i64.wrap ((i : Int) + (cn : Int)) = ((i + cn : Nat) : Int) := by rw [IntKind.wrap_i64]; omega
     have HN : Box (Eac s q J (W6.setCell ⟨q, 1, none⟩ (.int .i64 ((i : Int) + (cn : Int)))).drew (pre ++ [tk]) (i + cn)) := ⟨⟨Blk.drewN (by have := HS6.out.1.set 1 (.int .i64 ((i : Int) + (cn : Int))); simpa using this) 1, by omega, by have := HE.out.cnt; simp; omega, hT _ _ _ HS6.out.2 ((Wr.refl q W6).set 1 _).drew, by have h5 := HE.out.eq; rw [lexF_tok hlt hsp _ HRM.out rfl] at h5; rw [h5]; simp⟩⟩
     gi_region
     first
      | exact ⟨⟨pre ++ [tk], i + cn, HN.out⟩, by rw [hka, kAt_eq HN.out.src]; omega⟩
      | (gi_wp2; exact ⟨⟨pre ++ [tk], i + cn, HN.out⟩, by rw [hka, kAt_eq HN.out.src]; omega⟩)
    ·have he2 : (er != 0) = true := by simpa using he
     clear hfact hpos
     gi_wp2
     all_goals
      refine ⟨fun f hf => (by cases hf), ?_⟩
      gi_wp2
      refine bodyPost_ret (results_none rfl _ _ _) rfl ?_
      have h5 := HE.out.eq
      rw [lexF_bad hlt hsp _ HRM.out he, List.append_nil] at h5
      exact ⟨⟨_, rfl⟩, pre, ⟨by rw [h5], by rw [h5]; exact HW5.out.2.1⟩, hT _ _ _ HE.out.inv HW5.out.1⟩
   have hl' : letB s[i] = false := by simpa using hl
   rw [hl'] at CL
   by_cases hd : digB s[i] = true
   ·rw [hd] at CD
    obtain ⟨r, hr⟩ : ∃ r, tokN i (s[i] :: (lst s).drop (i + 1)) = r := ⟨_, rfl⟩
    have hrM : tokM i s[i] ((lst s).drop (i + 1)) = r := by unfold tokM; rw [if_neg hl, if_pos hd]; exact hr
    have hfact : r.1 = 0 → 0 + r.2.1.text.length = r.2.2 ∧ r.2.2 ≤ s.size - i := fun h => by
     have hf := tokN_f i (s[i] :: (lst s).drop (i + 1))
     rw [hr] at hf
     simp only [List.length_cons, List.length_drop, data_size] at hf
     omega
    have hpos : r.1 = 0 → 1 ≤ r.2.2 := fun h => hrM ▸ tok_pos (by rw [hrM]; exact h)
    have CT : Box (∀ W, Src W q s i 0 → CallsIn Fence.wide (n - 1) Tryz.prog 74 #[.pointer (some ⟨q, 0, none⟩)] W (RetK q s i r W)) := ⟨fun W h => by
     have := knumber_any q i s W h hi hs
     rw [kdrop_at hlt, hr] at this
     exact callsIn_wide.2 this⟩
    have HRM := Box.mk hrM
    obtain ⟨er, tk, cn⟩ := r
    simp only at hfact hpos
    clear hr hrM
    gi_upto_region 14 with (first
      | (refine ⟨trivial, ?_⟩; gi_at_call 71; (with_reducible refine (CL.out _).mono ?_); rintro e w7 ⟨rfl, hw⟩; subst w7)
      | (refine ⟨trivial, ?_⟩; gi_at_call 73; (with_reducible refine (CD.out _).mono ?_); rintro e w7 ⟨rfl, hw⟩; subst w7)
      | (refine ⟨trivial, ?_⟩; gi_at_call 74; (with_reducible refine (CT.out _ HW3.out.2.1).mono ?_); rintro e w5 ⟨rfl, hs5, hr5⟩; have HB5 : Blk w5 tb 103 zeroTok := (hr5.block tb HW3.out.2.2.lt htb).trans HW3.out.2.2; obtain ⟨t0, t1, t2, t3⟩ := HB5.c4; have tf := HB5.frozen))
    have HW5 := Box.mk (tok_put (t := tk) HW3.out.1 HW3.out.2.2 hr5 hs5 hz1 htb2)
    clear HW3 hs5 hr5 CT CL CD HB5 t0 t1 t2 t3 tf
    show Code.wpIn _ _ _ _ _ _ (putT w5 tb tk.kind (bsL tk.text) tk.n tk.off)
    generalize putT w5 tb tk.kind (bsL tk.text) tk.n tk.off = W5 at HW5 ⊢
    obtain ⟨c0, c1, c2⟩ := HW5.out.2.1.c3
    have cf := HW5.out.2.1.frozen
    obtain ⟨t0, t1, t2, t3⟩ := HW5.out.2.2.c4
    by_cases he : er = 0
    ·obtain ⟨hf1, hf2⟩ := hfact he
     have hp := hpos he
     subst he
     have htlt := HW5.out.2.2.lt
     obtain ⟨fn, tmps, assign, body, hy, hR⟩ := hY pre tk wr W5 (by have := HE.out.cnt; omega) HE.out.inv HW5.out.1
     have HR := Box.mk hR
     clear hR hfact hpos
     gi_wp2_with (refine HR.out.mono ?_; rintro e W6 ⟨rfl, hJ6, hq6, hk6⟩)
     have HS6 : Box (Src W6 q s i 0 ∧ J (pre ++ [tk]) W6) := ⟨hq6.trans HW5.out.2.1, hJ6⟩
     have ht1 : W6.cell? ⟨tb, 1, none⟩ = some (.string (bsL tk.text)) := (World.cell?_of_block (a := ⟨tb, 1, none⟩) (hk6 tb hz1 htlt)).trans t1
     clear c0 c1 c2 cf t0 t1 t2 t3 HW5 hy HR hJ6 hq6 hk6
     obtain ⟨c0, c1, c2⟩ := HS6.out.1.c3
     have cf := HS6.out.1.frozen
     have e0 : ((bsL tk.text).size : Int) = (cn : Int) - 0 := by rw [bsL_size]; omega
     have e1 : IntKind.i64.wrap ((0 : Int) + ((bsL tk.text).size : Int)) = (cn : Int) := by rw [IntKind.wrap_i64, e0]; omega
     have e3 : IntKind.i64.wrap ((0 : Int) + ((cn : Int) - 0)) = (cn : Int) := by rw [IntKind.wrap_i64]; omega
     have e4 : IntKind.i64.wrap ((bsL tk.text).size : Int) = (cn : Int) - 0 := by rw [IntKind.wrap_i64, e0]; omega
     have e2 : IntKind.i64.wrap ((i : Int) + (cn : Int)) = ((i + cn : Nat) : Int) := by rw [IntKind.wrap_i64]; omega
     have HN : Box (Eac s q J (W6.setCell ⟨q, 1, none⟩ (.int .i64 ((i : Int) + (cn : Int)))).drew (pre ++ [tk]) (i + cn)) := ⟨⟨Blk.drewN (by have := HS6.out.1.set 1 (.int .i64 ((i : Int) + (cn : Int))); simpa using this) 1, by omega, by have := HE.out.cnt; simp; omega, hT _ _ _ HS6.out.2 ((Wr.refl q W6).set 1 _).drew, by have h5 := HE.out.eq; rw [lexF_tok hlt hsp _ HRM.out rfl] at h5; rw [h5]; simp⟩⟩
     gi_region
     first
      | exact ⟨⟨pre ++ [tk], i + cn, HN.out⟩, by rw [hka, kAt_eq HN.out.src]; omega⟩
      | (gi_wp2; exact ⟨⟨pre ++ [tk], i + cn, HN.out⟩, by rw [hka, kAt_eq HN.out.src]; omega⟩)
    ·have he2 : (er != 0) = true := by simpa using he
     clear hfact hpos
     gi_wp2
     all_goals
      refine ⟨fun f hf => (by cases hf), ?_⟩
      gi_wp2
      refine bodyPost_ret (results_none rfl _ _ _) rfl ?_
      have h5 := HE.out.eq
      rw [lexF_bad hlt hsp _ HRM.out he, List.append_nil] at h5
      exact ⟨⟨_, rfl⟩, pre, ⟨by rw [h5], by rw [h5]; exact HW5.out.2.1⟩, hT _ _ _ HE.out.inv HW5.out.1⟩
   have hd' : digB s[i] = false := by simpa using hd
   rw [hd'] at CD
   by_cases hq34 : s[i].toNat = 34
   ·obtain ⟨r, hr⟩ : ∃ r, tokT i (s[i] :: (lst s).drop (i + 1)) = r := ⟨_, rfl⟩
    have hrM : tokM i s[i] ((lst s).drop (i + 1)) = r := by unfold tokM; rw [if_neg hl, if_neg hd, if_pos hq34]; exact hr
    have hfact : r.1 = 0 → 2 + r.2.1.text.length = r.2.2 ∧ r.2.2 ≤ s.size - i := fun h => by
     have hf := tokT_f (i := i) (l := s[i] :: (lst s).drop (i + 1)) (by rw [hr]; exact h) (by simp)
     rw [hr] at hf
     simp only [List.length_cons, List.length_drop, data_size] at hf
     omega
    have hpos : r.1 = 0 → 1 ≤ r.2.2 := fun h => hrM ▸ tok_pos (by rw [hrM]; exact h)
    have CT : Box (∀ W, Src W q s i 0 → CallsIn Fence.wide (n - 1) Tryz.prog 75 #[.pointer (some ⟨q, 0, none⟩)] W (RetK q s i r W)) := ⟨fun W h => by
     have := ktext_any q i s W h hlt hs
     rw [kdrop_at hlt, hr] at this
     exact callsIn_wide.2 this⟩
    have HRM := Box.mk hrM
    obtain ⟨er, tk, cn⟩ := r
    simp only at hfact hpos
    clear hr hrM
    have e34 : ((s[i].toNat : Int) == 34) = true := by rw [beq_iff_eq]; omega
    clear hq34
    gi_upto_region 14 with (first
      | (refine ⟨trivial, ?_⟩; gi_at_call 71; (with_reducible refine (CL.out _).mono ?_); rintro e w7 ⟨rfl, hw⟩; subst w7)
      | (refine ⟨trivial, ?_⟩; gi_at_call 73; (with_reducible refine (CD.out _).mono ?_); rintro e w7 ⟨rfl, hw⟩; subst w7)
      | (refine ⟨trivial, ?_⟩; gi_at_call 75; (with_reducible refine (CT.out _ HW3.out.2.1).mono ?_); rintro e w5 ⟨rfl, hs5, hr5⟩; have HB5 : Blk w5 tb 103 zeroTok := (hr5.block tb HW3.out.2.2.lt htb).trans HW3.out.2.2; obtain ⟨t0, t1, t2, t3⟩ := HB5.c4; have tf := HB5.frozen))
    have HW5 := Box.mk (tok_put (t := tk) HW3.out.1 HW3.out.2.2 hr5 hs5 hz1 htb2)
    clear HW3 hs5 hr5 CT CL CD HB5 t0 t1 t2 t3 tf
    show Code.wpIn _ _ _ _ _ _ (putT w5 tb tk.kind (bsL tk.text) tk.n tk.off)
    generalize putT w5 tb tk.kind (bsL tk.text) tk.n tk.off = W5 at HW5 ⊢
    obtain ⟨c0, c1, c2⟩ := HW5.out.2.1.c3
    have cf := HW5.out.2.1.frozen
    obtain ⟨t0, t1, t2, t3⟩ := HW5.out.2.2.c4
    by_cases he : er = 0
    ·obtain ⟨hf1, hf2⟩ := hfact he
     have hp := hpos he
     subst he
     have htlt := HW5.out.2.2.lt
     obtain ⟨fn, tmps, assign, body, hy, hR⟩ := hY pre tk wr W5 (by have := HE.out.cnt; omega) HE.out.inv HW5.out.1
     have HR := Box.mk hR
     clear hR hfact hpos
     gi_wp2_with (refine HR.out.mono ?_; rintro e W6 ⟨rfl, hJ6, hq6, hk6⟩)
     have HS6 : Box (Src W6 q s i 0 ∧ J (pre ++ [tk]) W6) := ⟨hq6.trans HW5.out.2.1, hJ6⟩
     have ht1 : W6.cell? ⟨tb, 1, none⟩ = some (.string (bsL tk.text)) := (World.cell?_of_block (a := ⟨tb, 1, none⟩) (hk6 tb hz1 htlt)).trans t1
     clear c0 c1 c2 cf t0 t1 t2 t3 HW5 hy HR hJ6 hq6 hk6
     obtain ⟨c0, c1, c2⟩ := HS6.out.1.c3
     have cf := HS6.out.1.frozen
     have e0 : ((bsL tk.text).size : Int) = (cn : Int) - 2 := by rw [bsL_size]; omega
     have e1 : IntKind.i64.wrap ((2 : Int) + ((bsL tk.text).size : Int)) = (cn : Int) := by rw [IntKind.wrap_i64, e0]; omega
     have e3 : IntKind.i64.wrap ((2 : Int) + ((cn : Int) - 2)) = (cn : Int) := by rw [IntKind.wrap_i64]; omega
     have e4 : IntKind.i64.wrap ((bsL tk.text).size : Int) = (cn : Int) - 2 := by rw [IntKind.wrap_i64, e0]; omega
     have e2 : IntKind.i64.wrap ((i : Int) + (cn : Int)) = ((i + cn : Nat) : Int) := by rw [IntKind.wrap_i64]; omega
     have HN : Box (Eac s q J (W6.setCell ⟨q, 1, none⟩ (.int .i64 ((i : Int) + (cn : Int)))).drew (pre ++ [tk]) (i + cn)) := ⟨⟨Blk.drewN (by have := HS6.out.1.set 1 (.int .i64 ((i : Int) + (cn : Int))); simpa using this) 1, by omega, by have := HE.out.cnt; simp; omega, hT _ _ _ HS6.out.2 ((Wr.refl q W6).set 1 _).drew, by have h5 := HE.out.eq; rw [lexF_tok hlt hsp _ HRM.out rfl] at h5; rw [h5]; simp⟩⟩
     gi_region
     first
      | exact ⟨⟨pre ++ [tk], i + cn, HN.out⟩, by rw [hka, kAt_eq HN.out.src]; omega⟩
      | (gi_wp2; exact ⟨⟨pre ++ [tk], i + cn, HN.out⟩, by rw [hka, kAt_eq HN.out.src]; omega⟩)
    ·have he2 : (er != 0) = true := by simpa using he
     clear hfact hpos
     gi_wp2
     all_goals
      refine ⟨fun f hf => (by cases hf), ?_⟩
      gi_wp2
      refine bodyPost_ret (results_none rfl _ _ _) rfl ?_
      have h5 := HE.out.eq
      rw [lexF_bad hlt hsp _ HRM.out he, List.append_nil] at h5
      exact ⟨⟨_, rfl⟩, pre, ⟨by rw [h5], by rw [h5]; exact HW5.out.2.1⟩, hT _ _ _ HE.out.inv HW5.out.1⟩
   ·obtain ⟨r, hr⟩ : ∃ r, tokS i (s[i] :: (lst s).drop (i + 1)) = r := ⟨_, rfl⟩
    have hrM : tokM i s[i] ((lst s).drop (i + 1)) = r := by unfold tokM; rw [if_neg hl, if_neg hd, if_neg hq34]; exact hr
    have hfact : r.1 = 0 → 0 + r.2.1.text.length = r.2.2 ∧ r.2.2 ≤ s.size - i := fun h => by
     have hf := tokS_f i (s[i] :: (lst s).drop (i + 1))
     rw [hr] at hf
     simp only [List.length_cons, List.length_drop, data_size] at hf
     omega
    have hpos : r.1 = 0 → 1 ≤ r.2.2 := fun h => hrM ▸ tok_pos (by rw [hrM]; exact h)
    have CT : Box (∀ W, Src W q s i 0 → CallsIn Fence.wide (n - 1) Tryz.prog 76 #[.pointer (some ⟨q, 0, none⟩)] W (RetK q s i r W)) := ⟨fun W h => by
     have := ksymbol_any q i s W h hlt hs
     rw [kdrop_at hlt, hr] at this
     exact callsIn_wide.2 this⟩
    have HRM := Box.mk hrM
    obtain ⟨er, tk, cn⟩ := r
    simp only at hfact hpos
    clear hr hrM
    have e34 : ((s[i].toNat : Int) == 34) = false := by rw [beq_eq_false_iff_ne]; omega
    clear hq34
    gi_upto_region 14 with (first
      | (refine ⟨trivial, ?_⟩; gi_at_call 71; (with_reducible refine (CL.out _).mono ?_); rintro e w7 ⟨rfl, hw⟩; subst w7)
      | (refine ⟨trivial, ?_⟩; gi_at_call 73; (with_reducible refine (CD.out _).mono ?_); rintro e w7 ⟨rfl, hw⟩; subst w7)
      | (refine ⟨trivial, ?_⟩; gi_at_call 76; (with_reducible refine (CT.out _ HW3.out.2.1).mono ?_); rintro e w5 ⟨rfl, hs5, hr5⟩; have HB5 : Blk w5 tb 103 zeroTok := (hr5.block tb HW3.out.2.2.lt htb).trans HW3.out.2.2; obtain ⟨t0, t1, t2, t3⟩ := HB5.c4; have tf := HB5.frozen))
    have HW5 := Box.mk (tok_put (t := tk) HW3.out.1 HW3.out.2.2 hr5 hs5 hz1 htb2)
    clear HW3 hs5 hr5 CT CL CD HB5 t0 t1 t2 t3 tf
    show Code.wpIn _ _ _ _ _ _ (putT w5 tb tk.kind (bsL tk.text) tk.n tk.off)
    generalize putT w5 tb tk.kind (bsL tk.text) tk.n tk.off = W5 at HW5 ⊢
    obtain ⟨c0, c1, c2⟩ := HW5.out.2.1.c3
    have cf := HW5.out.2.1.frozen
    obtain ⟨t0, t1, t2, t3⟩ := HW5.out.2.2.c4
    by_cases he : er = 0
    ·obtain ⟨hf1, hf2⟩ := hfact he
     have hp := hpos he
     subst he
     have htlt := HW5.out.2.2.lt
     obtain ⟨fn, tmps, assign, body, hy, hR⟩ := hY pre tk wr W5 (by have := HE.out.cnt; omega) HE.out.inv HW5.out.1
     have HR := Box.mk hR
     clear hR hfact hpos
     gi_wp2_with (refine HR.out.mono ?_; rintro e W6 ⟨rfl, hJ6, hq6, hk6⟩)
     have HS6 : Box (Src W6 q s i 0 ∧ J (pre ++ [tk]) W6) := ⟨hq6.trans HW5.out.2.1, hJ6⟩
     have ht1 : W6.cell? ⟨tb, 1, none⟩ = some (.string (bsL tk.text)) := (World.cell?_of_block (a := ⟨tb, 1, none⟩) (hk6 tb hz1 htlt)).trans t1
     clear c0 c1 c2 cf t0 t1 t2 t3 HW5 hy HR hJ6 hq6 hk6
     obtain ⟨c0, c1, c2⟩ := HS6.out.1.c3
     have cf := HS6.out.1.frozen
     have e0 : ((bsL tk.text).size : Int) = (cn : Int) - 0 := by rw [bsL_size]; omega
     have e1 : IntKind.i64.wrap ((0 : Int) + ((bsL tk.text).size : Int)) = (cn : Int) := by rw [IntKind.wrap_i64, e0]; omega
     have e3 : IntKind.i64.wrap ((0 : Int) + ((cn : Int) - 0)) = (cn : Int) := by rw [IntKind.wrap_i64]; omega
     have e4 : IntKind.i64.wrap ((bsL tk.text).size : Int) = (cn : Int) - 0 := by rw [IntKind.wrap_i64, e0]; omega
     have e2 : IntKind.i64.wrap ((i : Int) + (cn : Int)) = ((i + cn : Nat) : Int) := by rw [IntKind.wrap_i64]; omega
     have HN : Box (Eac s q J (W6.setCell ⟨q, 1, none⟩ (.int .i64 ((i : Int) + (cn : Int)))).drew (pre ++ [tk]) (i + cn)) := ⟨⟨Blk.drewN (by have := HS6.out.1.set 1 (.int .i64 ((i : Int) + (cn : Int))); simpa using this) 1, by omega, by have := HE.out.cnt; simp; omega, hT _ _ _ HS6.out.2 ((Wr.refl q W6).set 1 _).drew, by have h5 := HE.out.eq; rw [lexF_tok hlt hsp _ HRM.out rfl] at h5; rw [h5]; simp⟩⟩
     gi_region
     first
      | exact ⟨⟨pre ++ [tk], i + cn, HN.out⟩, by rw [hka, kAt_eq HN.out.src]; omega⟩
      | (gi_wp2; exact ⟨⟨pre ++ [tk], i + cn, HN.out⟩, by rw [hka, kAt_eq HN.out.src]; omega⟩)
    ·have he2 : (er != 0) = true := by simpa using he
     clear hfact hpos
     gi_wp2
     all_goals
      refine ⟨fun f hf => (by cases hf), ?_⟩
      gi_wp2
      refine bodyPost_ret (results_none rfl _ _ _) rfl ?_
      have h5 := HE.out.eq
      rw [lexF_bad hlt hsp _ HRM.out he, List.append_nil] at h5
      exact ⟨⟨_, rfl⟩, pre, ⟨by rw [h5], by rw [h5]; exact HW5.out.2.1⟩, hT _ _ _ HE.out.inv HW5.out.1⟩
  ·have hlt2 : ¬ (i : Int) < (s.size : Int) := by omega
   gi_upto_region 0 with (fail)
   gi_quiet (fail)
   gi_wp2
   go_end0
   have h5 := HE.out.eq
   rw [lexF_end (by omega), List.append_nil] at h5
   obtain rfl : i = s.size := by omega
   exact ⟨⟨_, rfl⟩, pre, ⟨by rw [h5], by rw [h5]; exact HE.out.src.drewN nq⟩, hT _ _ _ HE.out.inv ((Wr.refl q wr).drewN nq)⟩
end
end Go.Proofs.YtpgdijbfkahepaaGreatDoor
