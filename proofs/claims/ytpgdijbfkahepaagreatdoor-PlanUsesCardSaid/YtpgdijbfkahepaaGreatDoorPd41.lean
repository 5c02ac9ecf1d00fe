/- Contracts, packed: Kz. -/
import Derived.Test.YtpgdijbfkahepaaGreatDoorPd40
set_option linter.unusedVariables false
set_option linter.unusedSimpArgs false
namespace Go.Proofs.YtpgdijbfkahepaaGreatDoor
section
open Go.RowKit FracM
theorem tw_all (f : UInt8 → Bool) (l : List UInt8) : ∀ c ∈ l.takeWhile f, f c = true := by
 induction l with
 | nil => simp
 | cons a r ih =>
  intro c hc
  rw [List.takeWhile_cons] at hc
  split at hc
  ·next h =>
   rcases List.mem_cons.1 hc with rfl | hc
   ·exact h
   ·exact ih c hc
  ·simp at hc
theorem numV_nn (l : List UInt8) : ∀ n : Int, 0 ≤ n → (∀ c ∈ l, digB c = true) → 0 ≤ numV n l := by
 induction l with
 | nil => intro n h _; exact h
 | cons c r ih =>
  intro n h hd
  unfold numV
  split
  ·have := (digB_iff c).1 (hd c (by simp))
   exact ih _ (by omega) fun x hx => hd x (by simp [hx])
  ·exact h
theorem tokM_ok {i : Nat} {c : UInt8} {r : List UInt8} (hi : i + (r.length + 1) ≤ 2000) (h : (tokM i c r).1 = 0) : TokOk (tokM i c r).2.1 ∧ (tokM i c r).2.2 ≤ r.length + 1 := by
 unfold tokM at *
 by_cases h1 : letB c
 ·rw [if_pos h1]
  have hf := tokW_f i (c :: r)
  simp only [List.length_cons] at hf
  exact ⟨⟨(by unfold I64; omega : I64 0), ⟨by show (0 : Int) ≤ 0; omega, by show (0 : Int) ≤ _; omega⟩, by omega, by show i ≤ 2000; omega⟩, hf.2⟩
 rw [if_neg h1] at h ⊢
 by_cases h2 : digB c
 ·rw [if_pos h2] at h ⊢
  have hf := tokN_f i (c :: r)
  simp only [List.length_cons] at hf
  refine ⟨⟨(by unfold I64; omega : I64 1), ?_, by omega, by show i ≤ 2000; omega⟩, hf.2⟩
  unfold tokN at *
  simp only at h ⊢
  by_cases hb : 1073741824 < numV 0 ((c :: r).takeWhile digB)
  ·rw [if_pos hb] at h; simp at h
  ·exact ⟨numV_nn _ 0 (by omega) (tw_all _ _), by omega⟩
 rw [if_neg h2] at h ⊢
 by_cases h3 : c.toNat = 34
 ·rw [if_pos h3] at h ⊢
  have hf := tokT_f h (by simp)
  simp only [List.length_cons] at hf
  have hs : (tokT i (c :: r)).2.1.kind = 2 ∧ (tokT i (c :: r)).2.1.n = 0 ∧ (tokT i (c :: r)).2.1.off = i := by
   unfold tokT at *
   split
   ·next q => rw [if_pos q] at h; simp at h
   ·next q =>
    rw [if_neg q] at h
    split
    ·exact ⟨rfl, rfl, rfl⟩
    ·next q2 => rw [if_neg q2] at h; simp at h
  exact ⟨⟨by rw [hs.1]; unfold I64; omega, by rw [hs.2.1]; omega, by omega, by rw [hs.2.2]; omega⟩, hf.2⟩
 rw [if_neg h3] at h ⊢
 have hf := tokS_f i (c :: r)
 simp only [List.length_cons] at hf
 exact ⟨⟨(by unfold I64; omega : I64 3), ⟨by show (0 : Int) ≤ 0; omega, by show (0 : Int) ≤ _; omega⟩, by omega, by show i ≤ 2000; omega⟩, hf.2⟩
theorem lexM_ok : ∀ (n i : Nat) (l : List UInt8), i + l.length ≤ 2000 → ToksOk (lexM n i l).1 ∧ (lexM n i l).1.length ≤ l.length := by
 intro n
 induction n with
 | zero => intro i l h; exact ⟨fun t ht => by simp [lexM] at ht, by simp [lexM]⟩
 | succ n ih =>
  intro i l h
  cases l with
  | nil => exact ⟨fun t ht => by simp [lexM] at ht, by simp [lexM]⟩
  | cons c r =>
   simp only [List.length_cons] at h
   rw [lexM]
   split
   ·have := ih (i + 1) r (by omega)
    exact ⟨this.1, by simp; omega⟩
   ·split
    ·next he =>
     have hp := tok_pos he
     obtain ⟨h1, h2⟩ := tokM_ok h he
     have := ih (i + (tokM i c r).2.2) ((c :: r).drop (tokM i c r).2.2) (by simp; omega)
     simp only [List.length_drop, List.length_cons] at this
     refine ⟨fun t ht => ?_, by simp only [List.length_cons]; omega⟩
     rcases List.mem_cons.1 ht with rfl | ht
     ·exact h1
     ·exact this.1 t ht
    ·exact ⟨fun t ht => by simp at ht, by simp⟩
theorem pcatch_idle (a0 a1 a2 a3 : Value) (w : World) :
  CallsD Tryz.prog 39 #[a0, a1, a2, a3] .returning w fun e u' w' => e = .returned (.tuple #[]) ∧ u' = .returning ∧ w' = w := by
 refine callsD_of_wpS Tryz.func39 rfl fun c₀ cs hu => ?_
 apply wpS_seq
 apply wpS_region
 simp [wpOpsS, go_sem, recoverD, hu, Tryz.ntmps39, Exit.thenS]
 refine wpS_of_wp ?_
 simp only [Array.replicate_succ, Array.replicate_zero, List.push_toArray, List.append_toArray, List.nil_append, List.cons_append, List.setIfInBounds_toArray, List.set_cons_succ, List.set_cons_zero]
 go_wp2_with fail
 exact ⟨rfl, .returning, by cases c₀; simp_all, _, results_none rfl _ _ _, rfl, rfl, rfl⟩
/-- the variables of the parser -/
structure WordsV (w : World) : Prop where
 grp : WordsAt w 1 groupsT
 fn : WordsAt w 3 funcsT
 mat : WordsAt w 2 matchT
 opr : WordsAt w 0 opersT
theorem WordsV.below {w w' : World} (h : WordsV w) (hb : Below w.heap.size w w') : WordsV w' := ⟨h.grp.below hb, h.fn.below hb, h.mat.below hb, h.opr.below hb⟩
theorem WordsV.p {w w' : World} (h : WordsV w) (hb : Below w.heap.size w w') {q : Nat} (hq : w.heap.size ≤ q) : WordsP w' q :=
 ⟨h.grp.below hb, h.fn.below hb, h.mat.below hb, h.opr.below hb, ⟨Nat.lt_of_lt_of_le h.grp.1 hq, Nat.lt_of_lt_of_le h.fn.1 hq, Nat.lt_of_lt_of_le h.mat.1 hq, Nat.lt_of_lt_of_le h.opr.1 hq⟩⟩
/-- what Parse hands back -/
def RetP (s : ByteArray) (w : World) (e : Ending) (w' : World) : Prop := ∃ mv bv kv,
 e = .returned (.tuple #[.agg (ndC (parseT (lst s)).1.d mv bv kv), .int .i64 (parseT (lst s)).2.1, .int .i64 (parseT (lst s)).2.2]) ∧ TreeAt w' (fun b _ => w.heap.size ≤ b) (parseT (lst s)).1 (mv, bv, kv) ∧ Below w.heap.size w w'
theorem retTk_cases {s : ByteArray} {w w' : World} {e : Ending} (h : RetTk s w e w') : Below w.heap.size w w' ∧
    ((∃ a er : Int, er ≠ 0 ∧ e = .returned (.tuple #[.slice none 0 0, .int .i64 a, .int .i64 er]) ∧ parseT (lst s) = (zeroT, a, er)) ∨
     (s.size ≤ 2000 ∧ ∃ A n c toks, n = toks.length ∧ e = .returned (.tuple #[.slice A n c, .int .i64 0, .int .i64 0]) ∧ SeqP w' (fun b _ => w.heap.size ≤ b) 4 (.slice A n c) n (toks.flatMap tokL) ∧ ToksOk toks ∧ toks.length ≤ s.size ∧
       parseT (lst s) = match exprOf (facM s.size (s.size + 1)) toks with
        | .error f => (zeroT, f.1, f.2)
        | .ok (t, []) => if fitB t then (t, 0, 0) else (zeroT, (s.size : Int), 4)
        | .ok (t, x :: _) => (zeroT, (x.off : Int), 2))) := by
  obtain ⟨hb, h⟩ := h
  refine ⟨hb, ?_⟩
  have hl : (lst s).length = s.size := data_size s
  by_cases h1 : 2000 < s.size
  · rw [if_pos h1] at h
    exact .inl ⟨2000, 4, by decide, h, by unfold parseT; rw [if_pos (by rw [hl]; exact h1)]⟩
  rw [if_neg h1] at h
  by_cases h2 : (lexM s.size 0 (lst s)).2.1 = 0
  · rw [if_pos h2] at h
    obtain ⟨A, n, c, hn, he, hq⟩ := h
    obtain ⟨k1, k2⟩ := lexM_ok s.size 0 (lst s) (by rw [hl]; omega)
    refine .inr ⟨by omega, A, n, c, _, hn, he, hq, k1, by rw [hl] at k2; exact k2, ?_⟩
    unfold parseT
    rw [if_neg (by rw [hl]; exact h1), hl, if_pos h2]
    rcases exprOf (facM s.size (s.size + 1)) (lexM s.size 0 (lst s)).1 with f | ⟨t, us⟩
    · rfl
    · cases us <;> rfl
  · rw [if_neg h2] at h
    exact .inl ⟨_, _, h2, h, by unfold parseT; rw [if_neg (by rw [hl]; exact h1), hl, if_neg h2]⟩
/-- Parse under way: its four variables -/
structure PaS (s : ByteArray) (w W : World) (cs : Array Value) (a er : Int) : Prop where
 sb : Blk W w.heap.size 9 #[.string s]
 eb : Blk W (w.heap.size + 1) 35 cs
 ab : Blk W (w.heap.size + 1 + 1) 3 #[.int .i64 a]
 rb : Blk W (w.heap.size + 1 + 1 + 1) 26 #[.int .i64 er]
 below : Below w.heap.size w W
theorem PaS.next {s : ByteArray} {w W W' : World} {cs : Array Value} {a er : Int} (h : PaS s w W cs a er) (hb : Below W.heap.size W W') : PaS s w W' cs a er :=
 ⟨h.sb.below hb, h.eb.below hb, h.ab.below hb, h.rb.below hb, bthen h.below hb (Nat.le_refl _)⟩
theorem PaS.drew {s : ByteArray} {w W : World} {cs : Array Value} {a er : Int} (h : PaS s w W cs a er) : PaS s w W.drew cs a er := h.next (below_drewN _ 1)
theorem PaS.only {s : ByteArray} {w W W' : World} {cs : Array Value} {a er : Int} {q : Nat} (h : PaS s w W cs a er) (ho : Only q W W') (hq : w.heap.size + 1 + 1 + 1 < q) : PaS s w W' cs a er :=
 ⟨ho.blk h.sb (by omega), ho.blk h.eb (by omega), ho.blk h.ab (by omega), ho.blk h.rb (by omega), h.below.trans (ho.below (by omega) h.below.size)⟩
theorem PaS.put2 {s : ByteArray} {w W : World} {cs : Array Value} {a er a' er' : Int} (h : PaS s w W cs a er) : PaS s w ((W.setCell ⟨w.heap.size + 1 + 1, 0, none⟩ (.int .i64 a')).setCell ⟨w.heap.size + 1 + 1 + 1, 0, none⟩ (.int .i64 er')) cs a' er' :=
  ⟨(h.sb.far (p := ⟨w.heap.size + 1 + 1, 0, none⟩) (by simp only; omega) _).far (p := ⟨w.heap.size + 1 + 1 + 1, 0, none⟩) (by simp only; omega) _, (h.eb.far (p := ⟨w.heap.size + 1 + 1, 0, none⟩) (by simp only; omega) _).far (p := ⟨w.heap.size + 1 + 1 + 1, 0, none⟩) (by simp only; omega) _,
   Blk.far (p := ⟨w.heap.size + 1 + 1 + 1, 0, none⟩) (by simpa using h.ab.set 0 (.int .i64 a')) (by simp only; omega) _, by have := (h.rb.far (p := ⟨w.heap.size + 1 + 1, 0, none⟩) (by simp only; omega) (.int .i64 a')).set 0 (.int .i64 er'); simpa using this,
   (h.below.setCell (p := ⟨w.heap.size + 1 + 1, 0, none⟩) (by simp only; omega) _).setCell (p := ⟨w.heap.size + 1 + 1 + 1, 0, none⟩) (by simp only; omega) _⟩
theorem PaS.put11 {s : ByteArray} {w W : World} {v0 v1 v2 v3 v4 v5 v6 v7 v8 v9 v10 u0 u1 u2 u3 u4 u5 u6 u7 u8 u9 u10 : Value} {a er : Int} (h : PaS s w W #[v0, v1, v2, v3, v4, v5, v6, v7, v8, v9, v10] a er) : PaS s w (put11 W (w.heap.size + 1) u0 u1 u2 u3 u4 u5 u6 u7 u8 u9 u10) #[u0, u1, u2, u3, u4, u5, u6, u7, u8, u9, u10] a er := by
 have ho := put11_only (W := W) (o := w.heap.size + 1) u0 u1 u2 u3 u4 u5 u6 u7 u8 u9 u10
 exact ⟨ho.blk h.sb (by omega), put11_blkv h.eb, ho.blk h.ab (by omega), ho.blk h.rb (by omega), h.below.trans (ho.below (by omega) h.below.size)⟩
theorem zero_tree (W : World) (P : Nat → Nat → Prop) : TreeAt W P zeroT (nilV, nilV, nilV) :=
 Nod.tree (d := zeroT.d) (ks := []) ⟨⟨⟨(by unfold I64; omega : I64 0), (by unfold I64; omega : I64 0), (by unfold I64; omega : I64 0), (by unfold I64; omega : I64 0), (by unfold I64; omega : I64 0), (by unfold I64; omega : I64 0), (by unfold I64; omega : I64 0)⟩, by show (0 : Nat) ≤ maxLen; omega, fun m hm => by simp [zeroT, Tree.d] at hm, fun s hs => by simp [zeroT, Tree.d] at hs⟩, SeqP.nil _ _ _, SeqP.nil _ _ _, [], rfl, SeqP.nil _ _ _, fun i t c h1 h2 => by simp at h1⟩
/-- what Parse says of a tree and of what is left behind it -/
def retT (n : Nat) (t : Tree) : List Tok → Tree × Int × Int
 | [] => if fitB t then (t, 0, 0) else (zeroT, (n : Int), 4)
 | x :: _ => (zeroT, (x.off : Int), 2)
theorem par_fin {s : ByteArray} {w W : World} {a er : Int} (h : PaS s w W zeroC a er) (hP : parseT (lst s) = (zeroT, a, er)) :
  RetP s w (.returned (.tuple #[.agg #[.int .i64 0, .int .i64 0, .int .i64 0, .int .i64 0, .int .i64 0, .int .i64 0, .int .i64 0, .string ⟨#[]⟩, nilV, nilV, nilV], .int .i64 a, .int .i64 er])) W :=
 ⟨nilV, nilV, nilV, by rw [hP]; rfl, by rw [hP]; exact zero_tree _ _, h.below⟩
theorem PS.put_e {w : World} {g o : Nat} {en : Int} {ts : List Tok} (h : PS w g en ts) (hb : Blk w o 35 zeroC) (hn : o ≠ g) (u0 u1 u2 u3 u4 u5 u6 u7 u8 u9 u10 : Value) : PS (put11 w o u0 u1 u2 u3 u4 u5 u6 u7 u8 u9 u10) g en ts := by
 obtain ⟨v, h1, h2⟩ := h.mem
 have ho := put11_only (W := w) (o := o) u0 u1 u2 u3 u4 u5 u6 u7 u8 u9 u10
 refine ⟨⟨v, ho.blk h1 (Ne.symm hn), ?_⟩, h.ok, h.en0⟩
 have h3 : SeqP w (fun b _ => b < g ∧ b ≠ o) 4 v ts.length (ts.flatMap tokL) := by
  obtain ⟨e1, A, c, rfl, e2, e3, e4⟩ := h2
  refine ⟨e1, A, c, rfl, e2, e3, fun h0 => ?_⟩
  obtain ⟨b, off, rfl, f1, f2, f3⟩ := e4 h0
  refine ⟨b, off, rfl, f1, ⟨f2, fun hbo => ?_⟩, f3⟩
  subst hbo
  obtain ⟨x, r, rfl⟩ : ∃ x r, ts = x :: r := by cases ts with | nil => simp at h0 | cons x r => exact ⟨x, r, rfl⟩
  have k1 := f3 1 (.string (bsL x.text)) rfl
  have k2 := f3 2 (.int .i64 x.n) rfl
  unfold Blk at hb
  simp only [World.cell?, hb] at k1 k2
  have hlt : off + 1 < 11 := by
   rcases Nat.lt_or_ge (off + 1) 11 with h | h
   ·exact h
   ·rw [Array.getElem?_eq_none (by simpa using h)] at k1; cases k1
  have : off = 0 ∨ off = 1 ∨ off = 2 ∨ off = 3 ∨ off = 4 ∨ off = 5 ∨ off = 6 ∨ off = 7 ∨ off = 8 ∨ off = 9 := by omega
  rcases this with rfl | rfl | rfl | rfl | rfl | rfl | rfl | rfl | rfl | rfl <;> simp [ndC] at k1 k2
 exact (h3.keep (Agree.of_only ho fun b e hb => hb.2)).mono fun b e _ hb => hb.1
set_option maxRecDepth 100000 in
set_option maxHeartbeats 4000000 in
theorem pparse_any (s : ByteArray) (w : World) (hs : s.size ≤ maxLen) (hw : WordsV w) : Calls Tryz.prog 23 #[.string s] w (RetP s w) := by
 have hmf : ∀ (fn : Fn) (first cap : Array Value) (w : World), (Instr.makeFunc fn first cap).run Tryz.prog w = .ok (.func fn first cap) w := fun _ _ _ _ => rfl
 have HWV := Box.mk hw
 have H0 : Box (PaS s w ((((w.alloc (.cells #[.string s] 9)).alloc (.cells zeroC 35)).alloc (.cells #[.int .i64 0] 3)).alloc (.cells #[.int .i64 0] 26)) zeroC 0 0) :=
  ⟨⟨((((Blk.new _ _ _).alloc _).alloc _).alloc _), ((Blk.newAt _ _ (by simp)).alloc _).alloc _, (Blk.newAt _ _ (by simp)).alloc _, Blk.newAt _ _ (by simp), (bel3 _ _ _ _).alloc (by simp; omega) _⟩⟩
 clear hw
 go_enter_defers Tryz.func23, Tryz.ntmps23
 have hz0 : ((((w.alloc (.cells #[.string s] 9)).alloc (.cells zeroC 35)).alloc (.cells #[.int .i64 0] 3)).alloc (.cells #[.int .i64 0] 26)).heap.size = w.heap.size + 4 := by simp
 have sc := H0.out.sb.c1
 go_upto_region 1 with (fail)
 show Code.wp _ _ _ _ ((((w.alloc (.cells #[.string s] 9)).alloc (.cells zeroC 35)).alloc (.cells #[.int .i64 0] 3)).alloc (.cells #[.int .i64 0] 26))
 generalize (((w.alloc (.cells #[.string s] 9)).alloc (.cells zeroC 35)).alloc (.cells #[.int .i64 0] 3)).alloc (.cells #[.int .i64 0] 26) = W0 at H0 hz0 sc ⊢
 go_wp2_with fail
 refine (ktokens_any s _ hs).mono ?_
 intro e w1 hr
 obtain ⟨hb, hr⟩ := retTk_cases hr
 have H1 := Box.mk (H0.out.next hb)
 have hz1 := hb.size
 clear hb H0 sc
 obtain ⟨ac⟩ := Box.mk H1.out.ab.c1
 obtain ⟨rc⟩ := Box.mk H1.out.rb.c1
 have af := H1.out.ab.frozen
 have rf := H1.out.rb.frozen
 rcases hr with ⟨a, er, hne, rfl, hP⟩ | ⟨hsz, A, n, c, toks, rfl, rfl, hq, hok, hlen, hP⟩
 ·have hne2 : (er != 0) = true := by simpa using hne
  have HP := Box.mk hP
  have H2 := Box.mk (H1.out.put2 (a' := a) (er' := er))
  clear hP
  go_upto_region 2 with (fail)
  clear ac rc af rf H1
  generalize (w1.setCell ⟨w.heap.size + 1 + 1, 0, none⟩ (.int .i64 a)).setCell ⟨w.heap.size + 1 + 1 + 1, 0, none⟩ (.int .i64 er) = W2 at H2 ⊢
  have ac := H2.out.ab.c1
  have rc := H2.out.rb.c1
  have af := H2.out.ab.frozen
  have rf := H2.out.rb.frozen
  have ef := H2.out.eb.frozen
  obtain ⟨e0, e1, e2, e3, e4, e5, e6, e7, e8, e9, e10⟩ := blk11 (d := zNd) (mv := nilV) (bv := nilV) (kv := nilV) H2.out.eb
  simp only [Nat.zero_add] at e1 e2 e3 e4 e5 e6 e7 e8 e9 e10
  go_upto_region 3 with (fail)
  go_region
  go_wp2_with fail
  have HF := Box.mk (((H2.out.put11 (u0 := .int .i64 0) (u1 := .int .i64 0) (u2 := .int .i64 0) (u3 := .int .i64 0) (u4 := .int .i64 0) (u5 := .int .i64 0) (u6 := .int .i64 0) (u7 := .string ⟨#[]⟩) (u8 := nilV) (u9 := nilV) (u10 := nilV)).put2 (a' := a) (er' := er)).drew)
  clear H2 ac rc af rf ef e0 e1 e2 e3 e4 e5 e6 e7 e8 e9 e10
  show bodyPostD _ _ _ _ _ (((put11 W2 (w.heap.size + 1) (.int .i64 0) (.int .i64 0) (.int .i64 0) (.int .i64 0) (.int .i64 0) (.int .i64 0) (.int .i64 0) (.string ⟨#[]⟩) nilV nilV nilV).setCell ⟨w.heap.size + 1 + 1, 0, none⟩ (.int .i64 a)).setCell ⟨w.heap.size + 1 + 1 + 1, 0, none⟩ (.int .i64 er)).drew
  generalize (((put11 W2 (w.heap.size + 1) (.int .i64 0) (.int .i64 0) (.int .i64 0) (.int .i64 0) (.int .i64 0) (.int .i64 0) (.int .i64 0) (.string ⟨#[]⟩) nilV nilV nilV).setCell ⟨w.heap.size + 1 + 1, 0, none⟩ (.int .i64 a)).setCell ⟨w.heap.size + 1 + 1 + 1, 0, none⟩ (.int .i64 er)).drew = WF at HF ⊢
  obtain ⟨e0, e1, e2, e3, e4, e5, e6, e7, e8, e9, e10⟩ := blk11v HF.out.eb
  have ac := HF.out.ab.c1
  have rc := HF.out.rb.c1
  refine ⟨.tuple #[.agg #[.int .i64 0, .int .i64 0, .int .i64 0, .int .i64 0, .int .i64 0, .int .i64 0, .int .i64 0, .string ⟨#[]⟩, nilV, nilV, nilV], .int .i64 a, .int .i64 er], by simp [results, Tryz.results23, go_sem, e0, e1, e2, e3, e4, e5, e6, e7, e8, e9, e10, ac, rc], par_fin HF.out HP.out⟩
 ·have hz1' : w.heap.size + 4 ≤ w1.heap.size := by omega
  have H2 := Box.mk (H1.out.put2 (a' := 0) (er' := 0))
  have HSQ : Box (SeqP ((w1.setCell ⟨w.heap.size + 1 + 1, 0, none⟩ (.int .i64 0)).setCell ⟨w.heap.size + 1 + 1 + 1, 0, none⟩ (.int .i64 0)) (fun b _ => W0.heap.size ≤ b) 4 (.slice A toks.length c) toks.length (toks.flatMap tokL)) := ⟨(hq.keep (Agree.of_only (Only.setCell (g := w.heap.size + 1 + 1) 0 _) fun b e hb => by omega)).keep (Agree.of_only (Only.setCell (g := w.heap.size + 1 + 1 + 1) 0 _) fun b e hb => by omega)⟩
  have HP := Box.mk hP
  have HTK := Box.mk hok
  clear hP hq hok hr
  go_upto_region 2 with (fail)
  clear ac rc af rf H1
  have hz2 : w.heap.size + 4 ≤ ((w1.setCell ⟨w.heap.size + 1 + 1, 0, none⟩ (.int .i64 0)).setCell ⟨w.heap.size + 1 + 1 + 1, 0, none⟩ (.int .i64 0)).heap.size := by simpa [World.setCell] using hz1'
  generalize (w1.setCell ⟨w.heap.size + 1 + 1, 0, none⟩ (.int .i64 0)).setCell ⟨w.heap.size + 1 + 1 + 1, 0, none⟩ (.int .i64 0) = W2 at H2 HSQ hz2 ⊢
  have rc := H2.out.rb.c1
  have sc := H2.out.sb.c1
  have H3 : Box (PaS s w (W2.alloc (.cells #[.slice A toks.length c, .int .i64 (s.size : Int)] 86)) zeroC 0 0 ∧ PS (W2.alloc (.cells #[.slice A toks.length c, .int .i64 (s.size : Int)] 86)) W2.heap.size (s.size : Int) toks ∧ WordsP (W2.alloc (.cells #[.slice A toks.length c, .int .i64 (s.size : Int)] 86)) W2.heap.size) :=
   ⟨H2.out.next (bel1 _ _), ⟨⟨_, Blk.new _ _ _, (HSQ.out.mono (Q := fun b _ => b < W2.heap.size) fun b e hb _ => hb).keep (Agree.of_below (bel1 _ _))⟩, HTK.out, by omega⟩, HWV.out.p (bthen H2.out.below (bel1 _ _) (Nat.le_refl _)) H2.out.below.size⟩
  clear H2 HSQ
  go_upto_region 6 with (fail)
  clear rc sc
  generalize W2.alloc (.cells #[.slice A toks.length c, .int .i64 (s.size : Int)] 86) = W3 at H3 ⊢
  generalize W2.heap.size = q at *
  go_wp2_with fail
  refine (pexpression_any q (s.size : Int) (s.size + 1) toks _ (by omega) H3.out.2.1 H3.out.2.2).mono ?_
  intro e w4 hx
  rcases hx.cases with ⟨f, hs, rfl, ho⟩ | ⟨t, us, hs, hp, hv, ho⟩
  ·have HP2 : Box (parseT (lst s) = (zeroT, f.1, f.2)) := ⟨by rw [HP.out, hs]⟩
   have H4 := Box.mk (H3.out.1.only ho (by omega))
   show bodyPostD _ _ _ _ _ _
   refine leaves_cons (f := 39) (args := #[.pointer (some ⟨w.heap.size, 0, none⟩), .pointer (some ⟨w.heap.size + 1, 0, none⟩), .pointer (some ⟨w.heap.size + 1 + 1, 0, none⟩), .pointer (some ⟨w.heap.size + 1 + 1 + 1, 0, none⟩)]) (by simp) (by simp [go_sem]) ?_
   refine (pcatch_fail w.heap.size (w.heap.size + 1) (w.heap.size + 1 + 1) (w.heap.size + 1 + 1 + 1) w.heap.size f s _ zeroC _ _ _ _ _ _ _ _ _ _ _ _ _ H4.out.sb.c1 H4.out.eb H4.out.ab H4.out.rb (by omega) (by omega) (by omega) ⟨by omega, by omega, by omega, H4.out.below.size⟩).mono ?_
   rintro e9 u9 w9 ⟨rfl, rfl, he, ha, hr, hb⟩
   obtain ⟨e0, e1, e2, e3, e4, e5, e6, e7, e8, e9, e10⟩ := blk11v he
   have ac := ha.c1
   have rc := hr.c1
   refine ⟨.tuple #[.agg #[.int .i64 0, .int .i64 0, .int .i64 0, .int .i64 0, .int .i64 0, .int .i64 0, .int .i64 0, .string ⟨#[]⟩, nilV, nilV, nilV], .int .i64 f.1, .int .i64 f.2], by simp [results, Tryz.results23, go_sem, e0, e1, e2, e3, e4, e5, e6, e7, e8, e9, e10, ac, rc], nilV, nilV, nilV, by rw [HP2.out]; rfl, by rw [HP2.out]; exact zero_tree _ _, H4.out.below.trans hb⟩
  ·obtain ⟨mv, bv, kv, rfl, hT⟩ := hv
   obtain ⟨d, ks⟩ := t
   obtain ⟨A1, n1, rfl, l1⟩ := hT.nod.ms.form
   obtain ⟨A2, n2, rfl, l2⟩ := hT.nod.bys.form
   obtain ⟨A3, n3, rfl, l3⟩ := hT.nod.kform
   have HT5 : Box (TreeAt (put11 w4 (w.heap.size + 1) (.int .i64 d.kind) (.int .i64 d.fn) (.int .i64 d.win) (.int .i64 d.off) (.int .i64 d.k) (.int .i64 d.num) (.int .i64 d.den) (.string d.name) (.slice A1 d.ms.length n1) (.slice A2 d.bys.length n2) (.slice A3 ks.length n3)) (fun k _ => W3.heap.size ≤ k) (.node d ks) (.slice A1 d.ms.length n1, .slice A2 d.bys.length n2, .slice A3 ks.length n3)) := ⟨hT.keep (Agree.of_only (put11_only _ _ _ _ _ _ _ _ _ _ _) fun k _ hk => by have := H3.out.1.rb.lt; omega)⟩
   have H4 := Box.mk (H3.out.1.only ho (by omega))
   have HP5 : Box (PS (put11 w4 (w.heap.size + 1) (.int .i64 d.kind) (.int .i64 d.fn) (.int .i64 d.win) (.int .i64 d.off) (.int .i64 d.k) (.int .i64 d.num) (.int .i64 d.den) (.string d.name) (.slice A1 d.ms.length n1) (.slice A2 d.bys.length n2) (.slice A3 ks.length n3)) q (s.size : Int) us) := ⟨hp.put_e H4.out.eb (by omega) _ _ _ _ _ _ _ _ _ _ _⟩
   have H5 : Box (PaS s w (put11 w4 (w.heap.size + 1) (.int .i64 d.kind) (.int .i64 d.fn) (.int .i64 d.win) (.int .i64 d.off) (.int .i64 d.k) (.int .i64 d.num) (.int .i64 d.den) (.string d.name) (.slice A1 d.ms.length n1) (.slice A2 d.bys.length n2) (.slice A3 ks.length n3)) (ndC d (.slice A1 d.ms.length n1) (.slice A2 d.bys.length n2) (.slice A3 ks.length n3)) 0 0) := ⟨H4.out.put11⟩
   have HPE : Box (parseT (lst s) = retT s.size (.node d ks) us) := ⟨by rw [HP.out, hs]; clear hp hs HP5; cases us <;> rfl⟩
   have ef := H4.out.eb.frozen
   obtain ⟨e0, e1, e2, e3, e4, e5, e6, e7, e8, e9, e10⟩ := blk11v H4.out.eb
   simp only [Tree.d]
   clear hT hp hs HP
   go_upto_region 7 with (fail)
   clear ef e0 e1 e2 e3 e4 e5 e6 e7 e8 e9 e10 H4
   show Code.wp _ _ _ _ (put11 w4 (w.heap.size + 1) (.int .i64 d.kind) (.int .i64 d.fn) (.int .i64 d.win) (.int .i64 d.off) (.int .i64 d.k) (.int .i64 d.num) (.int .i64 d.den) (.string d.name) (.slice A1 d.ms.length n1) (.slice A2 d.bys.length n2) (.slice A3 ks.length n3))
   generalize put11 w4 (w.heap.size + 1) (.int .i64 d.kind) (.int .i64 d.fn) (.int .i64 d.win) (.int .i64 d.off) (.int .i64 d.k) (.int .i64 d.num) (.int .i64 d.den) (.string d.name) (.slice A1 d.ms.length n1) (.slice A2 d.bys.length n2) (.slice A3 ks.length n3) = W5 at HT5 HP5 H5 ⊢
   cases us with
   | cons x r =>
    have HP2 : Box (parseT (lst s) = (zeroT, (x.off : Int), 2)) := HPE
    obtain ⟨b, off, c', hblk, _⟩ := HP5.out.cons
    obtain ⟨p0, p1⟩ := hblk.c2
    have hpos : (0 : Int) < ((r.length + 1 : Nat) : Int) := by omega
    have hpos2 : 0 < r.length + 1 := by omega
    clear hblk
    go_wp2_with fail
    refine (pfail_any q (s.size : Int) 2 (x :: r) _ HP5.out).mono ?_
    rintro e w6 ⟨rfl, rfl⟩
    clear p0 p1
    show bodyPostD _ _ _ _ _ _
    refine leaves_cons (f := 39) (args := #[.pointer (some ⟨w.heap.size, 0, none⟩), .pointer (some ⟨w.heap.size + 1, 0, none⟩), .pointer (some ⟨w.heap.size + 1 + 1, 0, none⟩), .pointer (some ⟨w.heap.size + 1 + 1 + 1, 0, none⟩)]) (by simp) (by simp [go_sem]) ?_
    refine (pcatch_fail w.heap.size (w.heap.size + 1) (w.heap.size + 1 + 1) (w.heap.size + 1 + 1 + 1) w.heap.size (failAt (x :: r) (s.size : Int), 2) s _ zeroC _ _ _ _ _ _ _ _ _ _ _ _ _ H5.out.sb.c1 H5.out.eb H5.out.ab H5.out.rb (by omega) (by omega) (by omega) ⟨by omega, by omega, by omega, H5.out.below.size⟩).mono ?_
    rintro e9 u9 w9 ⟨rfl, rfl, he, ha, hr, hb⟩
    obtain ⟨e0, e1, e2, e3, e4, e5, e6, e7, e8, e9, e10⟩ := blk11v he
    have ac := ha.c1
    have rc := hr.c1
    refine ⟨.tuple #[.agg #[.int .i64 0, .int .i64 0, .int .i64 0, .int .i64 0, .int .i64 0, .int .i64 0, .int .i64 0, .string ⟨#[]⟩, nilV, nilV, nilV], .int .i64 (failAt (x :: r) (s.size : Int), 2).1, .int .i64 (failAt (x :: r) (s.size : Int), 2).2], by simp [results, Tryz.results23, go_sem, e0, e1, e2, e3, e4, e5, e6, e7, e8, e9, e10, ac, rc], nilV, nilV, nilV, by rw [HP2.out]; rfl, by rw [HP2.out]; exact zero_tree _ _, H5.out.below.trans hb⟩
   | nil =>
    obtain ⟨A', c', hblk, hc'⟩ := HP5.out.nil
    obtain ⟨p0, p1⟩ := hblk.c2
    obtain ⟨e0, e1, e2, e3, e4, e5, e6, e7, e8, e9, e10⟩ := blk11v H5.out.eb
    clear hblk
    go_wp2_with fail
    refine (fits_any (.node d ks) _ _ (_, _, _) HT5.out).mono ?_
    rintro e w6 ⟨rfl, hb6⟩
    have H6 := Box.mk (H5.out.next hb6)
    have HT6 := Box.mk (HT5.out.belo hb6)
    have HP6 := Box.mk (HP5.out.below hb6)
    clear hb6 p0 p1 e0 e1 e2 e3 e4 e5 e6 e7 e8 e9 e10 H5 HT5 HP5
    obtain ⟨fb, hfb⟩ : ∃ z, fitB (.node d ks) = z := ⟨_, rfl⟩
    have HFB := Box.mk hfb
    rw [hfb]
    clear hfb
    cases fb
    ·have HP2 : Box (parseT (lst s) = (zeroT, (s.size : Int), 4)) := ⟨by rw [HPE.out, retT, HFB.out]; rfl⟩
     go_wp2_with fail
     refine (pfail_any q (s.size : Int) 4 [] _ HP6.out).mono ?_
     rintro e w7 ⟨rfl, rfl⟩
     show bodyPostD _ _ _ _ _ _
     refine leaves_cons (f := 39) (args := #[.pointer (some ⟨w.heap.size, 0, none⟩), .pointer (some ⟨w.heap.size + 1, 0, none⟩), .pointer (some ⟨w.heap.size + 1 + 1, 0, none⟩), .pointer (some ⟨w.heap.size + 1 + 1 + 1, 0, none⟩)]) (by simp) (by simp [go_sem]) ?_
     refine (pcatch_fail w.heap.size (w.heap.size + 1) (w.heap.size + 1 + 1) (w.heap.size + 1 + 1 + 1) w.heap.size (failAt [] (s.size : Int), 4) s _ zeroC _ _ _ _ _ _ _ _ _ _ _ _ _ H6.out.sb.c1 H6.out.eb H6.out.ab H6.out.rb (by omega) (by omega) (by omega) ⟨by omega, by omega, by omega, H6.out.below.size⟩).mono ?_
     rintro e9 u9 w9 ⟨rfl, rfl, he, ha, hr, hb⟩
     obtain ⟨e0, e1, e2, e3, e4, e5, e6, e7, e8, e9, e10⟩ := blk11v he
     have ac := ha.c1
     have rc := hr.c1
     refine ⟨.tuple #[.agg #[.int .i64 0, .int .i64 0, .int .i64 0, .int .i64 0, .int .i64 0, .int .i64 0, .int .i64 0, .string ⟨#[]⟩, nilV, nilV, nilV], .int .i64 (failAt [] (s.size : Int), 4).1, .int .i64 (failAt [] (s.size : Int), 4).2], by simp [results, Tryz.results23, go_sem, e0, e1, e2, e3, e4, e5, e6, e7, e8, e9, e10, ac, rc], nilV, nilV, nilV, by rw [HP2.out]; rfl, by rw [HP2.out]; exact zero_tree _ _, H6.out.below.trans hb⟩
    ·have HP2 : Box (parseT (lst s) = (.node d ks, 0, 0)) := ⟨by rw [HPE.out, retT, HFB.out]; rfl⟩
     obtain ⟨e0, e1, e2, e3, e4, e5, e6, e7, e8, e9, e10⟩ := blk11v H6.out.eb
     have ac := H6.out.ab.c1
     have rc := H6.out.rb.c1
     have af := H6.out.ab.frozen
     have rf := H6.out.rb.frozen
     have ef := H6.out.eb.frozen
     have HF : Box (PaS s w (((put11 w6 (w.heap.size + 1) (.int .i64 d.kind) (.int .i64 d.fn) (.int .i64 d.win) (.int .i64 d.off) (.int .i64 d.k) (.int .i64 d.num) (.int .i64 d.den) (.string d.name) (.slice A1 d.ms.length n1) (.slice A2 d.bys.length n2) (.slice A3 ks.length n3)).setCell ⟨w.heap.size + 1 + 1, 0, none⟩ (.int .i64 0)).setCell ⟨w.heap.size + 1 + 1 + 1, 0, none⟩ (.int .i64 0)) (ndC d (.slice A1 d.ms.length n1) (.slice A2 d.bys.length n2) (.slice A3 ks.length n3)) 0 0) := ⟨H6.out.put11.put2⟩
     have HSZ : Box (w.heap.size + 1 + 1 + 1 < W3.heap.size) := ⟨H3.out.1.rb.lt⟩
     have HTF : Box (TreeAt (((put11 w6 (w.heap.size + 1) (.int .i64 d.kind) (.int .i64 d.fn) (.int .i64 d.win) (.int .i64 d.off) (.int .i64 d.k) (.int .i64 d.num) (.int .i64 d.den) (.string d.name) (.slice A1 d.ms.length n1) (.slice A2 d.bys.length n2) (.slice A3 ks.length n3)).setCell ⟨w.heap.size + 1 + 1, 0, none⟩ (.int .i64 0)).setCell ⟨w.heap.size + 1 + 1 + 1, 0, none⟩ (.int .i64 0)) (fun k _ => W3.heap.size ≤ k) (.node d ks) (.slice A1 d.ms.length n1, .slice A2 d.bys.length n2, .slice A3 ks.length n3)) := ⟨((HT6.out.keep (Agree.of_only (put11_only _ _ _ _ _ _ _ _ _ _ _) fun k _ hk => by have := HSZ.out; omega)).keep (Agree.of_only (Only.setCell (g := w.heap.size + 1 + 1) 0 _) fun k _ hk => by have := HSZ.out; omega)).keep (Agree.of_only (Only.setCell (g := w.heap.size + 1 + 1 + 1) 0 _) fun k _ hk => by have := HSZ.out; omega)⟩
     go_wp2_with fail
     clear ac rc af rf ef e0 e1 e2 e3 e4 e5 e6 e7 e8 e9 e10
     show bodyPostD _ _ _ _ _ (((put11 w6 (w.heap.size + 1) (.int .i64 d.kind) (.int .i64 d.fn) (.int .i64 d.win) (.int .i64 d.off) (.int .i64 d.k) (.int .i64 d.num) (.int .i64 d.den) (.string d.name) (.slice A1 d.ms.length n1) (.slice A2 d.bys.length n2) (.slice A3 ks.length n3)).setCell ⟨w.heap.size + 1 + 1, 0, none⟩ (.int .i64 0)).setCell ⟨w.heap.size + 1 + 1 + 1, 0, none⟩ (.int .i64 0))
     generalize ((put11 w6 (w.heap.size + 1) (.int .i64 d.kind) (.int .i64 d.fn) (.int .i64 d.win) (.int .i64 d.off) (.int .i64 d.k) (.int .i64 d.num) (.int .i64 d.den) (.string d.name) (.slice A1 d.ms.length n1) (.slice A2 d.bys.length n2) (.slice A3 ks.length n3)).setCell ⟨w.heap.size + 1 + 1, 0, none⟩ (.int .i64 0)).setCell ⟨w.heap.size + 1 + 1 + 1, 0, none⟩ (.int .i64 0) = WF at HF HTF ⊢
     refine leaves_cons (f := 39) (args := #[.pointer (some ⟨w.heap.size, 0, none⟩), .pointer (some ⟨w.heap.size + 1, 0, none⟩), .pointer (some ⟨w.heap.size + 1 + 1, 0, none⟩), .pointer (some ⟨w.heap.size + 1 + 1 + 1, 0, none⟩)]) (by simp) (by simp [go_sem]) ?_
     refine (pcatch_idle _ _ _ _ _).mono ?_
     rintro e9 u9 w9 ⟨rfl, rfl, rfl⟩
     obtain ⟨e0, e1, e2, e3, e4, e5, e6, e7, e8, e9, e10⟩ := blk11v HF.out.eb
     have ac := HF.out.ab.c1
     have rc := HF.out.rb.c1
     refine ⟨.tuple #[.agg #[.int .i64 d.kind, .int .i64 d.fn, .int .i64 d.win, .int .i64 d.off, .int .i64 d.k, .int .i64 d.num, .int .i64 d.den, .string d.name, .slice A1 d.ms.length n1, .slice A2 d.bys.length n2, .slice A3 ks.length n3], .int .i64 0, .int .i64 0], by simp [results, Tryz.results23, go_sem, e0, e1, e2, e3, e4, e5, e6, e7, e8, e9, e10, ac, rc], _, _, _, by rw [HP2.out]; rfl, by rw [HP2.out]; exact HTF.out.mono fun k _ _ hk => by have := HSZ.out; omega, HF.out.below⟩
end
end Go.Proofs.YtpgdijbfkahepaaGreatDoor
