/- Contracts, packed: Ol Om On Or Ot Ou Eb Ov. -/
import Derived.Test.YthoibeajhdhdhaaGreatDoorPs41
import Derived.Test.YthoibeajhdhdhaaGreatDoorPs43
import Derived.Test.YthoibeajhdhdhaaGreatDoorPs45
import Derived.Test.YthoibeajhdhdhaaGreatDoorPs50
import Derived.Laws.Concat
import Derived.Laws.BytesArg
set_option linter.unusedVariables false
set_option linter.unusedSimpArgs false
namespace Go.Proofs.YthoibeajhdhdhaaGreatDoor
section
open Go.RowKit FracM
end
section
open Go.RowKit FracM
end
section
open Go.RowKit FracM
end
section
open Go.RowKit FracM
end
section
open Go.RowKit FracM
end
section
open Go.RowKit FracM
set_option maxHeartbeats 1000000 in
set_option maxRecDepth 100000 in
theorem rloose_any (t : Tree) (P : Nat → Nat → Prop) (w : World) (s : Sl) (hT : TreeAt w P t s) (hc : chk t = 0) (hp : prtB t = true) (hn : nds t ≤ 400) : Calls Tryz.prog 15 #[.agg (ndC t.d s.1 s.2.1 s.2.2)] w (RetB (.string (bsL (showR true t 1))) w) := by
 have HH := Box.mk (And.intro hc (And.intro hp hn))
 obtain ⟨d, ks⟩ := t
 obtain ⟨mv, bv, kv⟩ := s
 have HN := Box.mk (N1.start hT)
 clear hT hc hp hn
 simp only [Tree.d]
 go_enter Tryz.func15, Tryz.ntmps15
 go_upto_region 1 with (fail)
 generalize w.alloc (.cells (ndC d _ _ _) 29) = wr at HN ⊢
 obtain ⟨c0, c1, c2, c3, c4, c5, c6, c7, c8, c9, c10⟩ := HN.out.c
 simp only [Nat.zero_add] at c1 c2 c3 c4 c5 c6 c7 c8 c9 c10
 go_wp2_with fail
 refine (rshow_any true (.node d ks) 1 1 P _ (mv, bv, kv) (by omega) rfl HH.out.1 HH.out.2.1 HH.out.2.2 HN.out.nod.tree).mono ?_
 rintro e w1 ⟨rfl, hb⟩
 have HN1 := Box.mk (HN.out.next hb)
 clear hb c0 c1 c2 c3 c4 c5 c6 c7 c8 c9 c10
 go_wp2_with fail
 go_ret
 exact ⟨rfl, HN1.out.below⟩
theorem tokM_off {i : Nat} {c : UInt8} {r : List UInt8} (h : (tokM i c r).1 = 0) : (tokM i c r).2.1.off = i := by
 unfold tokM at *
 split
 ·rfl
 next h1 =>
 rw [if_neg h1] at h
 split
 ·rfl
 next h2 =>
 rw [if_neg h2] at h
 split
 ·next h3 =>
  rw [if_pos h3] at h
  unfold tokT at *
  split
  ·next q => rw [if_pos q] at h; simp at h
  ·next q =>
   rw [if_neg q] at h
   split
   ·rfl
   ·next q2 => rw [if_neg q2] at h; simp at h
 ·rfl
theorem lexM_off : ∀ (n i : Nat) (l : List UInt8), ∀ t ∈ (lexM n i l).1, t.off ≤ i + l.length := by
 intro n
 induction n with
 | zero => intro i l t ht; simp [lexM] at ht
 | succ n ih =>
  intro i l
  cases l with
  | nil => intro t ht; simp [lexM] at ht
  | cons c r =>
   rw [lexM]
   split
   ·intro t ht
    have := ih (i + 1) r t ht
    simp only [List.length_cons]
    omega
   ·split
    ·next he =>
     intro t ht
     rcases List.mem_cons.1 ht with rfl | ht
     ·rw [tokM_off he]; omega
     ·have := ih _ _ t ht
      have h2 := tokM_le he
      rw [List.length_drop] at this
      omega
    ·intro t ht; simp at ht
theorem retTk_lex {s : ByteArray} {w w' : World} {e : Ending} (h : RetTk s w e w') : Below w.heap.size w w' ∧
    ((∃ a er : Int, er ≠ 0 ∧ e = .returned (.tuple #[.slice none 0 0, .int .i64 a, .int .i64 er])) ∨
     (s.size ≤ 2000 ∧ ∃ A c toks, e = .returned (.tuple #[.slice A toks.length c, .int .i64 0, .int .i64 0]) ∧ SeqP w' (fun b _ => w.heap.size ≤ b) 4 (.slice A toks.length c) toks.length (toks.flatMap tokL) ∧ (∀ t ∈ toks, t.off ≤ s.size) ∧ toks.length ≤ s.size ∧ toks = (lexM s.size 0 (lst s)).1 ∧ (lexM s.size 0 (lst s)).2.1 = 0)) := by
  obtain ⟨hb, h⟩ := h
  refine ⟨hb, ?_⟩
  have hl : (lst s).length = s.size := data_size s
  by_cases h1 : 2000 < s.size
  · rw [if_pos h1] at h
    exact .inl ⟨2000, 4, by decide, h⟩
  rw [if_neg h1] at h
  by_cases h2 : (lexM s.size 0 (lst s)).2.1 = 0
  · rw [if_pos h2] at h
    obtain ⟨A, n, c, hn, he, hq⟩ := h
    subst hn
    obtain ⟨k1, k2⟩ := lexM_ok s.size 0 (lst s) (by rw [hl]; omega)
    refine .inr ⟨by omega, A, c, _, he, hq, fun t ht => ?_, by rw [hl] at k2; exact k2, rfl, h2⟩
    have := lexM_off _ _ _ t ht
    rw [hl] at this
    omega
  · rw [if_neg h2] at h
    exact .inl ⟨_, _, h2, h⟩
theorem toks_at {w : World} {P : Nat → Nat → Prop} {A : Option Addr} {c : Nat} {toks : List Tok} (h : SeqP w P 4 (.slice A toks.length c) toks.length (toks.flatMap tokL)) {k : Nat} {t : Tok} (ht : toks[k]? = some t) : ∃ b off, A = some ⟨b, off, none⟩ ∧ b < w.heap.size ∧ toks.length ≤ c ∧ c ≤ maxLen ∧
  w.cell? ⟨b, off + k * 4, none⟩ = some (.int .i64 t.kind) ∧ w.cell? ⟨b, off + k * 4 + 1, none⟩ = some (.string (bsL t.text)) ∧ w.cell? ⟨b, off + k * 4 + 2, none⟩ = some (.int .i64 t.n) ∧ w.cell? ⟨b, off + k * 4 + 3, none⟩ = some (.int .i64 (t.off : Int)) := by
 obtain ⟨_, A', c', hv, h3, h4, h5⟩ := h
 cases hv
 have hk := (List.getElem?_eq_some_iff.1 ht).1
 obtain ⟨b, off, rfl, hb, hp, hx⟩ := h5 (by omega)
 refine ⟨b, off, rfl, hb, h3, h4, ?_, ?_, ?_, ?_⟩
 ·exact hx (k * 4) _ ((tok_get toks k 0 t ht (by omega)).trans rfl)
 ·rw [Nat.add_assoc]; exact hx (k * 4 + 1) _ ((tok_get toks k 1 t ht (by omega)).trans rfl)
 ·rw [Nat.add_assoc]; exact hx (k * 4 + 2) _ ((tok_get toks k 2 t ht (by omega)).trans rfl)
 ·rw [Nat.add_assoc]; exact hx (k * 4 + 3) _ ((tok_get toks k 3 t ht (by omega)).trans rfl)
end
section
open Go.RowKit FracM
theorem Lx.spcs {l r : List UInt8} {es : List ETok} (hl : ∀ c ∈ l, spcB c = true) (h : Lx r es) : Lx (l ++ r) es := by
 induction l with
 | nil => exact h
 | cons c q ih => exact Lx.spc (hl c (by simp)) (ih fun x hx => hl x (by simp [hx]))
theorem take_tw (f : UInt8 → Bool) (l : List UInt8) : l.take (l.takeWhile f).length = l.takeWhile f := (List.prefix_iff_eq_take.1 (List.takeWhile_prefix f)).symm
theorem drop_tw (f : UInt8 → Bool) (l : List UInt8) (x : UInt8) (h : (l.drop (l.takeWhile f).length).head? = some x) : f x = false := by
 induction l with
 | nil => simp at h
 | cons c r ih =>
  rw [List.takeWhile_cons] at h
  cases hc : f c with
  | true => rw [hc] at h; exact ih (by simpa using h)
  | false => rw [hc] at h; simp at h; subst h; exact hc
theorem spc_nw {c : UInt8} (h : spcB c = true) : wrdB c = false ∧ digB c = false := by
 have h1 : c.toNat = 9 ∨ c.toNat = 10 ∨ c.toNat = 13 ∨ c.toNat = 32 := by
  unfold spcB at h; simp at h; omega
 have hd : digB c = false := by
  cases hq : digB c with
  | false => rfl
  | true => have := (digB_iff c).1 hq; omega
 refine ⟨?_, hd⟩
 unfold wrdB
 have hl : letB c = false := by
  cases hq : letB c with
  | false => rfl
  | true => have := (letB_iff c).1 hq; omega
 rw [hl, hd]
 simp
 intro h2
 rw [h2] at h1
 simp at h1
theorem Lx.digs {w r : List UInt8} {es : List ETok} (h1 : ∀ c ∈ w, digB c = true) (h2 : w ≠ []) (h3 : numV 0 w ≤ 1073741824) (hr : nh digB r) (h : Lx r es) : Lx (w ++ r) ((1, w, numV 0 w) :: es) := by
 obtain ⟨c, v, rfl⟩ : ∃ c v, w = c :: v := by cases w with | nil => exact absurd rfl h2 | cons c v => exact ⟨c, v, rfl⟩
 have hc := h1 c (by simp)
 rw [List.cons_append]
 have htw : (c :: (v ++ r)).takeWhile digB = c :: v := tw_app (w := c :: v) h1 hr
 refine Lx.tok (c :: v).length (dig_spc hc) (fun i => ?_) ⟨by simp, by simp⟩ (by simpa using h)
 unfold tokM
 rw [dig_let hc, if_neg (by simp), if_pos hc]
 unfold tokN
 rw [htw]
 exact ⟨if_neg (by omega), rfl, rfl⟩
theorem ixb_split (c : UInt8) : ∀ (r : List UInt8), 0 ≤ Lib.indexByte r c → ∃ v q, r = v ++ c :: q ∧ (v.length : Int) = Lib.indexByte r c ∧ ∀ x ∈ v, x ≠ c := by
 intro r
 induction r with
 | nil => intro h; simp [Lib.indexByte] at h
 | cons d r ih =>
  intro h
  unfold Lib.indexByte at h ⊢
  by_cases hd : d == c
  ·rw [if_pos hd]
   have : d = c := by simpa using hd
   subst this
   exact ⟨[], r, rfl, rfl, fun x hx => by simp at hx⟩
  ·rw [if_neg hd] at h ⊢
   have hge := Lib.indexByte_ge r c
   by_cases hl : (Lib.indexByte r c == -1) = true
   ·rw [if_pos hl] at h; omega
   ·rw [if_neg hl]
    obtain ⟨v, q, rfl, h1, h2⟩ := ih (by simp at hl; omega)
    refine ⟨d :: v, q, rfl, by rw [← h1]; simp, fun x hx => ?_⟩
    rcases List.mem_cons.1 hx with rfl | hx
    ·intro hxc; exact hd (by simpa using hxc)
    ·exact h2 x hx
theorem sym_one {c : UInt8} {r : List UInt8} (h : symN (c :: r) ≠ 0) : (symN (c :: r) = 1 ∧ symB c = true) ∨ (symN (c :: r) = 2 ∧ (c = 33 ∨ c = 94) ∧ ∃ q, r = 61 :: q) := by
 have e : ∀ n : Nat, n < 256 → c.toNat = n → c = UInt8.ofNat n := fun n hn hh => by rw [← hh]; simp
 rw [symN] at h ⊢
 split at h
 ·next hc =>
  left
  refine ⟨if_pos hc, ?_⟩
  rcases hc with h | h | h | h | h | h | h | h | h | h | h | h <;> rw [e _ (by omega) h] <;> decide
 ·next hc =>
  split at h
  ·next h2 =>
   right
   refine ⟨by rw [if_neg hc, if_pos h2], ?_, ?_⟩
   ·rcases h2.1 with h | h
    ·left; rw [e 33 (by decide) h]; rfl
    ·right; rw [e 94 (by decide) h]; rfl
   ·cases r with
    | nil => simp at h2
    | cons d q =>
     have h3 := h2.2
     simp at h3
     refine ⟨q, ?_⟩
     have : d = 61 := by
      have h4 : d = UInt8.ofNat d.toNat := by simp
      rw [h4, h3]; rfl
     rw [this]
  ·exact absurd rfl h
theorem tokT_inv {i : Nat} {r : List UInt8} (h : (tokT i (34 :: r)).1 = 0) : ∃ v q, r = v ++ 34 :: q ∧ v.all txtB = true ∧ (∀ x ∈ v, x ≠ 34) ∧ v.length ≤ 16 ∧ tokT i (34 :: r) = (0, ⟨2, v, 0, i⟩, v.length + 2) := by
 have h' := h
 unfold tokT at h'
 split at h'
 ·simp at h'
 ·next k1 =>
  split at h'
  ·next k2 =>
   simp only [List.tail_cons] at k1 k2 h'
   obtain ⟨v, q, hv, hv1, hv2⟩ := ixb_split 34 r (by omega)
   have hn : (Lib.indexByte r 34).toNat = v.length := by omega
   have ht : r.take v.length = v := by rw [hv]; simp
   rw [hn, ht] at k2
   have hlen : v.length ≤ 16 := by
    by_cases hq : 16 < Lib.indexByte r 34
    ·simp [hq] at h'
    ·omega
   exact ⟨v, q, hv, k2, hv2, hlen, tokT_ok (v := v) (l := 34 :: r) (by simpa using hv1.symm) (by simpa using ht) k2 hlen⟩
  ·simp at h'
/-- a token before whatever may follow it -/
theorem tok_sp {i : Nat} {c : UInt8} {r R : List UInt8} {es : List ETok} (h : (tokM i c r).1 = 0) (hd : ∀ x, R.head? = some x → spcB x = true ∨ ((c :: r).drop (tokM i c r).2.2).head? = some x) (hR : Lx R es) : Lx ((c :: r).take (tokM i c r).2.2 ++ R) (er (tokM i c r).2.1 :: es) := by
 unfold tokM at *
 by_cases h1 : letB c
 ·rw [if_pos h1] at h hd ⊢
  unfold tokW at *
  simp only at h hd ⊢
  have hlen : ¬ 16 < ((c :: r).takeWhile wrdB).length := fun hq => by rw [if_pos hq] at h; cases h
  rw [take_tw]
  refine Lx.word (tw_all _ _) ⟨c, r.takeWhile wrdB, by rw [List.takeWhile_cons, if_pos (by unfold wrdB; rw [h1]; rfl)], h1⟩ (by omega) (fun x hx => ?_) hR
  rcases hd x hx with hs | hs
  ·exact (spc_nw hs).1
  ·exact drop_tw _ _ _ hs
 rw [if_neg h1] at h hd ⊢
 by_cases h2 : digB c
 ·rw [if_pos h2] at h hd ⊢
  unfold tokN at *
  simp only at h hd ⊢
  have hlen : ¬ 1073741824 < numV 0 ((c :: r).takeWhile digB) := fun hq => by rw [if_pos hq] at h; cases h
  rw [take_tw]
  refine Lx.digs (tw_all _ _) (by rw [List.takeWhile_cons, h2]; simp) (by omega) (fun x hx => ?_) hR
  rcases hd x hx with hs | hs
  ·exact (spc_nw hs).2
  ·exact drop_tw _ _ _ hs
 rw [if_neg h2] at h hd ⊢
 by_cases h3 : c.toNat = 34
 ·rw [if_pos h3] at h hd ⊢
  have hc : c = 34 := by
   have h4 : c = UInt8.ofNat c.toNat := by simp
   rw [h4, h3]; rfl
  subst hc
  obtain ⟨v, q, hv, k2, hv2, hlen, ht⟩ := tokT_inv h
  rw [ht] at hd ⊢
  simp only at hd ⊢
  have e : (34 :: r).take (v.length + 2) ++ R = 34 :: (v ++ (34 :: R)) := by
   rw [hv]
   have e2 : (34 :: (v ++ 34 :: q)).take (v.length + 2) = 34 :: (v ++ [34]) := by
    rw [show (34 : UInt8) :: (v ++ 34 :: q) = (34 :: (v ++ [34])) ++ q by simp, List.take_left' (by simp)]
   rw [e2]; simp
  rw [e]
  exact Lx.text (fun x hx => ⟨List.all_eq_true.1 k2 x hx, hv2 x hx⟩) hlen hR
 ·rw [if_neg h3] at h hd ⊢
  unfold tokS at *
  simp only at h hd ⊢
  have hz : symN (c :: r) ≠ 0 := fun hq => by rw [if_pos hq] at h; cases h
  rcases sym_one hz with ⟨k1, k2⟩ | ⟨k1, k2, q, hq⟩
  ·rw [k1]
   exact Lx.sym k2 hR
  ·rw [k1, hq]
   exact Lx.sym2 k2 hR
def segS (S : List UInt8) (a b : Nat) : List UInt8 := (S.drop a).take (b - a)
def nextO (S : List UInt8) : List Tok → Nat
 | [] => S.length
 | t :: _ => t.off
/-- the text with white space before its tokens -/
def spS (S : List UInt8) (ws : Nat → List UInt8) : Nat → List Tok → List UInt8
 | k, [] => ws k
 | k, t :: ts => ws k ++ (segS S t.off (nextO S ts) ++ spS S ws (k + 1) ts)
theorem seg_self (S : List UInt8) (a : Nat) : segS S a a = [] := by unfold segS; simp
theorem seg_add (S : List UInt8) (a m b : Nat) (h : a + m ≤ b) : segS S a b = (S.drop a).take m ++ segS S (a + m) b := by
 unfold segS
 rw [show b - a = m + (b - (a + m)) by omega, List.take_add, List.drop_drop]
theorem sp_lex (S : List UInt8) (ws : Nat → List UInt8) (hws : ∀ k, ∀ c ∈ ws k, spcB c = true) : ∀ (n i : Nat) (T : List Tok) (e : Nat), i ≤ S.length → lexM n i (S.drop i) = (T, 0, e) → S.length - i ≤ n →
  (i ≤ nextO S T ∧ nextO S T ≤ S.length) ∧ (∀ c ∈ segS S i (nextO S T), spcB c = true) ∧ ∀ k, Lx (spS S ws k T) (T.map er) ∧ ∀ x, (segS S i (nextO S T) ++ spS S ws k T).head? = some x → spcB x = true ∨ (S.drop i).head? = some x := by
 have hnil : ∀ i, i = S.length → (i ≤ nextO S [] ∧ nextO S [] ≤ S.length) ∧ (∀ c ∈ segS S i (nextO S []), spcB c = true) ∧ ∀ k, Lx (spS S ws k []) (List.map er []) ∧ ∀ x, (segS S i (nextO S []) ++ spS S ws k []).head? = some x → spcB x = true ∨ (S.drop i).head? = some x := by
  intro i hi
  subst hi
  refine ⟨⟨Nat.le_refl _, Nat.le_refl _⟩, fun c hc => ?_, fun k => ⟨?_, fun x hx => ?_⟩⟩
  ·rw [show nextO S [] = S.length from rfl, seg_self] at hc; simp at hc
  ·have := Lx.spcs (hws k) Lx_nil
   simpa [spS] using this
  ·rw [show nextO S [] = S.length from rfl, seg_self, List.nil_append] at hx
   left
   exact hws k x (List.mem_of_mem_head? hx)
 intro n
 induction n with
 | zero =>
  intro i T e hi h hn
  have hi2 : i = S.length := by omega
  rw [lexM] at h
  obtain rfl : T = [] := by simp only [Prod.mk.injEq] at h; exact h.1.symm
  exact hnil i hi2
 | succ n ih =>
  intro i T e hi h hn
  cases hd : S.drop i with
  | nil =>
   have hi2 : i = S.length := by have := List.drop_eq_nil_iff.1 hd; omega
   rw [hd, lexM] at h
   obtain rfl : T = [] := by simp only [Prod.mk.injEq] at h; exact h.1.symm
   rw [← hd]
   exact hnil i hi2
  | cons c r =>
   have hlt : i < S.length := by
    rcases Nat.lt_or_ge i S.length with h' | h'
    ·exact h'
    ·rw [List.drop_eq_nil_of_le h'] at hd; cases hd
   have hr : S.drop (i + 1) = r := by rw [← List.drop_drop, hd]; rfl
   rw [hd, lexM] at h
   by_cases hs : spcB c = true
   ·rw [if_pos hs, ← hr] at h
    obtain ⟨⟨a1, a2⟩, a3, a4⟩ := ih (i + 1) T e (by omega) h (by omega)
    have hseg : segS S i (nextO S T) = c :: segS S (i + 1) (nextO S T) := by
     rw [seg_add S i 1 _ a1, hd]; rfl
    refine ⟨⟨by omega, a2⟩, fun x hx => ?_, fun k => ⟨(a4 k).1, fun x hx => ?_⟩⟩
    ·rw [hseg] at hx
     rcases List.mem_cons.1 hx with rfl | hx
     ·exact hs
     ·exact a3 x hx
    ·rw [hseg] at hx
     simp at hx
     subst hx
     exact .inl hs
   ·rw [if_neg hs] at h
    by_cases ht : (tokM i c r).1 = 0
    ·rw [if_pos ht] at h
     have hm := tok_pos ht
     have hml := tokM_le ht
     have hof := tokM_off ht
     have hlen : (c :: r).length = S.length - i := by rw [← hd, List.length_drop]
     have hdm : (c :: r).drop (tokM i c r).2.2 = S.drop (i + (tokM i c r).2.2) := by rw [← hd, List.drop_drop]
     rw [hdm] at h
     simp only [Prod.mk.injEq] at h
     obtain ⟨h1, h2⟩ := h
     obtain ⟨⟨a1, a2⟩, a3, a4⟩ := ih (i + (tokM i c r).2.2) (lexM n (i + (tokM i c r).2.2) (S.drop (i + (tokM i c r).2.2))).1 e (by omega) (by rw [← h2]) (by omega)
     generalize (lexM n (i + (tokM i c r).2.2) (S.drop (i + (tokM i c r).2.2))).1 = T' at h1 a1 a2 a3 a4
     subst h1
     have hseg : segS S i (nextO S T') = (c :: r).take (tokM i c r).2.2 ++ segS S (i + (tokM i c r).2.2) (nextO S T') := by rw [seg_add S i _ _ a1, hd]
     have hno : nextO S ((tokM i c r).2.1 :: T') = i := hof
     refine ⟨by rw [hno]; omega, fun x hx => ?_, fun k => ⟨?_, fun x hx => ?_⟩⟩
     ·rw [hno, seg_self] at hx; simp at hx
     ·rw [spS, hof, hseg, List.append_assoc, List.map_cons]
      refine Lx.spcs (hws k) (tok_sp ht (fun x hx => ?_) (Lx.spcs a3 (a4 (k + 1)).1))
      rw [hdm]
      exact (a4 (k + 1)).2 x hx
     ·rw [hno, seg_self, List.nil_append, spS, hof, hseg] at hx
      cases hw : ws k with
      | nil =>
       right
       rw [hw] at hx
       obtain ⟨m, hm'⟩ : ∃ m, (tokM i c r).2.2 = m + 1 := ⟨(tokM i c r).2.2 - 1, by omega⟩
       rw [hm'] at hx
       simp at hx
       simp [hx]
      | cons y q =>
       left
       rw [hw] at hx
       simp at hx
       subst hx
       exact hws k y (by rw [hw]; simp)
    ·rw [if_neg ht] at h
     simp only [Prod.mk.injEq] at h
     exact absurd h.2.1 ht
end
section
open Go.RowKit FracM
theorem Ints.toPv {w : World} {v : Value} {l : List Int} (h : Ints w w.heap.size v l) : IntsP w v l := by
 obtain ⟨⟨h1, A, c, hv, hn, hc, hx⟩, hz⟩ := h
 refine ⟨⟨h1, A, c, hv, hn, hc, fun h0 => ?_⟩, hz⟩
 obtain ⟨b, off, hA, hf, hcl⟩ := hx h0
 exact ⟨b, off, hA, hf.1, hf.1, hcl⟩
end
end Go.Proofs.YthoibeajhdhdhaaGreatDoor
