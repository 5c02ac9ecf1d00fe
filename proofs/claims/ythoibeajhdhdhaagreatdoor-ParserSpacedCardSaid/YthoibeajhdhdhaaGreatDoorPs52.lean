/- Contracts, packed: Ec. -/
import Derived.Test.YthoibeajhdhdhaaGreatDoorPs51
set_option linter.unusedVariables false
set_option linter.unusedSimpArgs false
namespace Go.Proofs.YthoibeajhdhdhaaGreatDoor
section
open Go.RowKit FracM
/-- the offsets of the tokens increase -/
theorem sp_off (S : List UInt8) : ∀ (n i : Nat) (T : List Tok) (e : Nat), i ≤ S.length → lexM n i (S.drop i) = (T, 0, e) → S.length - i ≤ n → ∀ k t, T[k]? = some t → t.off ≤ nextO S (T.drop (k + 1)) := by
 intro n
 induction n with
 | zero =>
  intro i T e hi h hn k t ht
  rw [lexM] at h
  obtain rfl : T = [] := by simp only [Prod.mk.injEq] at h; exact h.1.symm
  simp at ht
 | succ n ih =>
  intro i T e hi h hn k t ht
  cases hd : S.drop i with
  | nil =>
   rw [hd, lexM] at h
   obtain rfl : T = [] := by simp only [Prod.mk.injEq] at h; exact h.1.symm
   simp at ht
  | cons c r =>
   have hlt : i < S.length := by
    rcases Nat.lt_or_ge i S.length with h' | h'
    ·exact h'
    ·rw [List.drop_eq_nil_of_le h'] at hd; cases hd
   have hr : S.drop (i + 1) = r := by rw [← List.drop_drop, hd]; rfl
   rw [hd, lexM] at h
   by_cases hs : spcB c = true
   ·rw [if_pos hs, ← hr] at h
    exact ih (i + 1) T e (by omega) h (by omega) k t ht
   ·rw [if_neg hs] at h
    by_cases hk : (tokM i c r).1 = 0
    ·rw [if_pos hk] at h
     have hm := tok_pos hk
     have hml := tokM_le hk
     have hof := tokM_off hk
     have hlen : (c :: r).length = S.length - i := by rw [← hd, List.length_drop]
     have hdm : (c :: r).drop (tokM i c r).2.2 = S.drop (i + (tokM i c r).2.2) := by rw [← hd, List.drop_drop]
     rw [hdm] at h
     simp only [Prod.mk.injEq] at h
     obtain ⟨h1, h2⟩ := h
     have hq : lexM n (i + (tokM i c r).2.2) (S.drop (i + (tokM i c r).2.2)) = ((lexM n (i + (tokM i c r).2.2) (S.drop (i + (tokM i c r).2.2))).1, 0, e) := by rw [← h2]
     subst h1
     cases k with
     | zero =>
      obtain ⟨⟨a1, -⟩, -⟩ := sp_lex S (fun _ => []) (fun _ c hc => by cases hc) n _ _ e (by omega) hq (by omega)
      simp at ht
      subst ht
      rw [hof]
      exact Nat.le_trans (Nat.le_add_right _ _) a1
     | succ k =>
      rw [List.getElem?_cons_succ] at ht
      exact ih _ _ e (by omega) hq (by omega) k t ht
    ·rw [if_neg hk] at h
     simp only [Prod.mk.injEq] at h
     exact absurd h.2.1 hk
def wsL : List (List UInt8) := [[], [32], [10], [9, 13], [32, 32]]
/-- the white space before token k -/
def wsF (sl : List Int) (k : Nat) : List UInt8 := wsL.getD (pickZ sl (k : Int) 5).toNat []
theorem wsL_spc : ∀ j, ∀ c ∈ wsL.getD j [], spcB c = true := by
 intro j
 match j with
 | 0 => decide
 | 1 => decide
 | 2 => decide
 | 3 => decide
 | 4 => decide
 | j + 5 => intro c hc; simp [wsL] at hc
theorem wsF_spc (sl : List Int) : ∀ k, ∀ c ∈ wsF sl k, spcB c = true := fun k => wsL_spc _
theorem wsL_len : ∀ j, (wsL.getD j []).length ≤ 2 := by
 intro j
 match j with
 | 0 => decide
 | 1 => decide
 | 2 => decide
 | 3 => decide
 | 4 => decide
 | j + 5 => simp [wsL]
abbrev wsC : Array Value := #[.string ⟨#[]⟩, .string ⟨#[32]⟩, .string ⟨#[10]⟩, .string ⟨#[9, 13]⟩, .string ⟨#[32, 32]⟩]
theorem ws_cell {W : World} {g ty : Nat} (h : Blk W g ty wsC) (j : Nat) (hj : j < 5) : W.cell? ⟨g, j, none⟩ = some (.string (bsL (wsL.getD j []))) := by
 unfold Blk at h
 match j, hj with
 | 0, _ => simp [World.cell?, h]; rfl
 | 1, _ => simp [World.cell?, h]; rfl
 | 2, _ => simp [World.cell?, h]; rfl
 | 3, _ => simp [World.cell?, h]; rfl
 | 4, _ => simp [World.cell?, h]; rfl
/-- the text so far -/
def spP (S : List UInt8) (ws : Nat → List UInt8) (T : List Tok) : Nat → List UInt8
 | 0 => []
 | k + 1 => spP S ws T k ++ (ws k ++ segS S ((T[k]?.map Tok.off).getD 0) (nextO S (T.drop (k + 1))))
theorem spP_all (S : List UInt8) (ws : Nat → List UInt8) (T : List Tok) : ∀ k, k ≤ T.length → spS S ws 0 T = spP S ws T k ++ spS S ws k (T.drop k) := by
 intro k
 induction k with
 | zero => intro _; rw [spP, List.drop_zero, List.nil_append]
 | succ k ih =>
  intro hk
  rw [ih (by omega), List.drop_eq_getElem_cons (show k < T.length by omega), spS, spP]
  rw [List.getElem?_eq_getElem (show k < T.length by omega)]
  simp [List.append_assoc]
theorem spP_len (S : List UInt8) (sl : List Int) (T : List Tok) : ∀ k, (spP S (wsF sl) T k).length ≤ (S.length + 2) * k := by
 intro k
 induction k with
 | zero => simp [spP]
 | succ k ih =>
  rw [spP, List.length_append, List.length_append]
  have h1 : (wsF sl k).length ≤ 2 := wsL_len _
  have h2 : (segS S ((T[k]?.map Tok.off).getD 0) (nextO S (T.drop (k + 1)))).length ≤ S.length := by unfold segS; rw [List.length_take, List.length_drop]; omega
  rw [Nat.mul_succ]
  omega
/-- what Spaced hands back -/
def spM (s : ByteArray) (sl : List Int) : ByteArray := if s.size ≤ 2000 ∧ (lexM s.size 0 (lst s)).2.1 = 0 then bsL (spS (lst s) (wsF sl) 0 (lexM s.size 0 (lst s)).1) else s
theorem retTk_lexN {s : ByteArray} {w w' : World} {e : Ending} (h : RetTk s w e w') : Below w.heap.size w w' ∧
    ((∃ a er : Int, er ≠ 0 ∧ e = .returned (.tuple #[.slice none 0 0, .int .i64 a, .int .i64 er]) ∧ ¬ (s.size ≤ 2000 ∧ (lexM s.size 0 (lst s)).2.1 = 0)) ∨
     (s.size ≤ 2000 ∧ ∃ A c toks, e = .returned (.tuple #[.slice A toks.length c, .int .i64 0, .int .i64 0]) ∧ SeqP w' (fun b _ => w.heap.size ≤ b) 4 (.slice A toks.length c) toks.length (toks.flatMap tokL) ∧ (∀ t ∈ toks, t.off ≤ s.size) ∧ toks.length ≤ s.size ∧ toks = (lexM s.size 0 (lst s)).1 ∧ (lexM s.size 0 (lst s)).2.1 = 0)) := by
  have h0 := h
  obtain ⟨hb, h⟩ := retTk_lex h
  refine ⟨hb, ?_⟩
  rcases h with ⟨a, er, h1, h2⟩ | h
  · refine .inl ⟨a, er, h1, h2, fun hc => ?_⟩
    obtain ⟨-, hr⟩ := h0
    rw [if_neg (by omega), if_pos hc.2] at hr
    obtain ⟨A, n, c, -, he, -⟩ := hr
    rw [h2] at he
    simp at he
    exact h1 he.2.2
  · exact .inr h
theorem spc_x (x p : ByteArray) (q : ByteArray) (h1 : x.size ≤ 5000000) (h2 : p.size ≤ 2) (h3 : q.size ≤ 2000) : (∀ W : World, (Op.stringOp .add x p).run Tryz.prog W = .ok (.string (x ++ p)) W) ∧ (∀ W : World, (Op.stringOp .add (x ++ p) q).run Tryz.prog W = .ok (.string ((x ++ p) ++ q)) W) :=
 ⟨fun W => run_string_add_sum (P := Tryz.prog) (w := W) _ _ (by omega), fun W => run_string_add_sum (P := Tryz.prog) (w := W) _ _ (by rw [ByteArray.size_append]; omega)⟩
set_option maxHeartbeats 8000000 in
set_option maxRecDepth 100000 in
theorem spaced_any (s : ByteArray) (A : Option Addr) (nn cc : Nat) (sl : List Int) (w : World) (hs : s.size ≤ maxLen) (hI : Ints w w.heap.size (.slice A nn cc) sl) :
  Calls Tryz.prog 30 #[.string s, .slice A nn cc] w (RetB (.string (spM s sl)) w) := by
 have HI := Box.mk hI
 have HS := Box.mk hs
 clear hI hs
 obtain ⟨R, HR⟩ : ∃ R, Box (spM s sl = R) := ⟨_, ⟨rfl⟩⟩
 rw [HR.out]
 go_enter Tryz.func30, Tryz.ntmps30
 go_wp2_with fail
 refine (rtokens_any s _ HS.out).mono ?_
 intro e w1 hr
 obtain ⟨hb, ⟨a, er, hne, rfl, hno⟩ | ⟨hsz, A1, c1, toks, rfl, hq, hof, hlen, htk, hlx⟩⟩ := retTk_lexN hr
 ·have hne2 : (er != 0) = true := by simpa using hne
  have HB := Box.mk hb
  have HE : Box (R = s) := ⟨by rw [← HR.out]; unfold spM; rw [if_neg hno]⟩
  clear hb hr hne hno
  go_wp2_with fail
  go_ret
  exact ⟨by rw [HE.out]; rfl, HB.out⟩
 have HQ := Box.mk hq
 have HO := Box.mk hof
 have HE : Box (R = bsL (spS (lst s) (wsF sl) 0 toks)) := ⟨by rw [← HR.out]; unfold spM; rw [if_pos ⟨hsz, hlx⟩, ← htk]⟩
 have HB2 : Box (Below w.heap.size w (w1.alloc (.cells wsC 9)) ∧ Blk (w1.alloc (.cells wsC 9)) w1.heap.size 9 wsC ∧ SeqP (w1.alloc (.cells wsC 9)) (fun b _ => w.heap.size ≤ b) 4 (.slice A1 toks.length c1) toks.length (toks.flatMap tokL)) := ⟨bthen hb (bel1 _ _) (Nat.le_refl _), Blk.new _ _ _, hq.keep (Agree.of_below (bel1 _ _))⟩
 have HI2 : Box (Ints (w1.alloc (.cells wsC 9)) w.heap.size (.slice A nn cc) sl) := ⟨HI.out.below (bthen hb (bel1 _ _) (Nat.le_refl _))⟩
 have HSO : Box (∀ k t, toks[k]? = some t → t.off ≤ nextO (lst s) (toks.drop (k + 1))) := ⟨by
  have hl : (lst s).length = s.size := data_size s
  refine sp_off (lst s) s.size 0 toks (lexM s.size 0 (lst s)).2.2 (Nat.zero_le _) ?_ (by omega)
  rw [List.drop_zero, htk, ← hlx]⟩
 clear hq hof htk hlx hb hr HI HQ HR
 go_upto_region 5 with (fail)
 obtain ⟨wg, hwg⟩ : ∃ wg, w1.heap.size = wg := ⟨_, rfl⟩
 rw [hwg] at HB2 ⊢
 generalize w1.alloc (.cells wsC 9) = W at HB2 HI2 ⊢
 clear hwg
 have hlS : (lst s).length = s.size := data_size s
 go_wp2_with fail
 go_loopw [9, 10] (fun o i wr => ∃ (x : ByteArray) (k : Nat), o = .string x ∧ i = .int .i64 (k : Int) ∧ k ≤ toks.length ∧ x = bsL (spP (lst s) (wsF sl) toks k) ∧ ∃ m, wr = W.drewN m) (fun _ i _ => toks.length - (intOf i).toNat)
 case atStart => exact ⟨_, 0, rfl, rfl, by omega, rfl, 0, rfl⟩
 case round =>
  obtain ⟨x, k, rfl, rfl, hk, hx, mm, rfl⟩ := hrel
  have HX := Box.mk hx
  have hxz : x.size ≤ 5000000 := by
   rw [hx, bsL_sz]
   have h1 := spP_len (lst s) sl toks k
   have h2 : ((lst s).length + 2) * k ≤ 2002 * 2000 := Nat.mul_le_mul (by omega) (by omega)
   omega
  clear hx
  have HBm : Box (Below w.heap.size w (W.drewN mm) ∧ Blk (W.drewN mm) wg 9 wsC ∧ SeqP (W.drewN mm) (fun b _ => w.heap.size ≤ b) 4 (.slice A1 toks.length c1) toks.length (toks.flatMap tokL)) := ⟨bdrew HB2.out.1 mm, HB2.out.2.1.below (below_drewN _ _), HB2.out.2.2.keep (Agree.of_below (below_drewN _ _))⟩
  have HIm : Box (Ints (W.drewN mm) w.heap.size (.slice A nn cc) sl) := ⟨HI2.out.below (below_drewN _ _)⟩
  obtain ⟨p0, p1⟩ := pick_bd sl (k : Int) 5 (by omega)
  obtain ⟨j, HJ⟩ : ∃ j : Nat, Box (pickZ sl (k : Int) 5 = (j : Int)) := ⟨(pickZ sl (k : Int) 5).toNat, ⟨by omega⟩⟩
  rw [HJ.out] at p0 p1
  have hj : j < 5 := by omega
  obtain ⟨p, HP⟩ : ∃ p, Box (bsL (wsL.getD j []) = p) := ⟨_, ⟨rfl⟩⟩
  have HPZ : Box (p = bsL (wsF sl k)) := ⟨by rw [← HP.out]; unfold wsF; rw [HJ.out]; rfl⟩
  have hpz : p.size ≤ 2 := by rw [← HP.out, bsL_sz]; exact wsL_len j
  have HPC : Box ((W.drewN mm).cell? ⟨wg, j, none⟩ = some (.string p)) := ⟨by rw [← HP.out]; exact ws_cell HBm.out.2.1 j hj⟩
  by_cases hlt : k < toks.length
  ·have hlt2 : (k : Int) < (toks.length : Int) := by omega
   obtain ⟨tk, HT⟩ : ∃ t, Box (toks[k]? = some t ∧ t.off ≤ s.size) := ⟨toks[k], ⟨List.getElem?_eq_getElem hlt, HO.out _ (List.getElem_mem hlt)⟩⟩
   obtain ⟨b, off, hA, hbl, hlc, hcm, -, -, -, t3⟩ := toks_at HBm.out.2.2 HT.out.1
   subst hA
   have HT3 := Box.mk t3
   clear t3
   go_upto_if 34 with (fail)
   go_cut [11] (fun v wx => ∃ z : Nat, v = .int .i64 (z : Int) ∧ z ≤ s.size ∧ Box (z = nextO (lst s) (toks.drop (k + 1))) ∧ wx = W.drewN mm)
   case first =>
    by_cases hk1 : k + 1 < toks.length
    ·have hk2 : (k : Int) + 1 < (toks.length : Int) := by omega
     obtain ⟨t', HT'⟩ : ∃ t, Box (toks[k + 1]? = some t ∧ t.off ≤ s.size) := ⟨toks[k + 1], ⟨List.getElem?_eq_getElem hk1, HO.out _ (List.getElem_mem hk1)⟩⟩
     have HNX : Box (t'.off = nextO (lst s) (toks.drop (k + 1))) := ⟨by
      have h1 := HT'.out.1
      rw [List.getElem?_eq_getElem hk1] at h1
      rw [List.drop_eq_getElem_cons hk1]
      cases h1
      rfl⟩
     obtain ⟨b', off', hA, -, -, -, -, -, -, u3⟩ := toks_at HBm.out.2.2 HT'.out.1
     cases hA
     go_wp2_with fail
     go_meet
     exact ⟨t'.off, rfl, HT'.out.2, HNX, rfl⟩
    ·have hk2 : ¬ (k : Int) + 1 < (toks.length : Int) := by omega
     have HNX : Box (s.size = nextO (lst s) (toks.drop (k + 1))) := ⟨by rw [List.drop_eq_nil_of_le (by omega)]; exact hlS.symm⟩
     go_wp2_with fail
     go_meet
     exact ⟨s.size, rfl, Nat.le_refl _, HNX, rfl⟩
   case rest =>
    obtain ⟨z, rfl, hz, HNX, rfl⟩ := hcut
    have t3 := HT3.out
    have ps := HPC.out
    have htz := HT.out.2
    have hoz : tk.off ≤ z := by rw [HNX.out]; exact HSO.out k tk HT.out.1
    have HPK := Box.mk hoz
    have hqz : (s.extract tk.off z).size ≤ 2000 := by rw [ByteArray.size_extract]; omega
    obtain ⟨xs1, xs2⟩ := spc_x x p (s.extract tk.off z) hxz hpz hqz
    have HOUT : Box ((x ++ p) ++ s.extract tk.off z = bsL (spP (lst s) (wsF sl) toks (k + 1))) := ⟨by
     have hq : s.extract tk.off z = bsL (segS (lst s) tk.off z) := by
      have h1 := ext_bs s tk.off (z - tk.off)
      rw [show tk.off + (z - tk.off) = z by omega] at h1
      exact h1
     rw [HX.out, HPZ.out, hq, spP, HT.out.1, ← HNX.out]
     apply ByteArray.ext
     simp [bsL, ByteArray.data_append]⟩
    go_wp2_with fail
    go_region_held3 (fun w' => w'.cell? ⟨b, off + k * 4 + 3, none⟩ = some (.int .i64 (tk.off : Int)) ∧ w'.cell? ⟨wg, j, none⟩ = some (.string p)) (first | exact ⟨t3, ps⟩ | go_keep) (first | (go_at_call 54; refine (pick_any _ _ _ w.heap.size sl (k : Int) 5 _ (by exact HIm.out) (by omega) (by omega)).mono ?_; rintro e w' ⟨rfl, rfl⟩; rw [HJ.out]))
    go_wp2_with fail
    go_roundw
    case rel => exact ⟨_, k + 1, rfl, by go_num, by omega, HOUT.out, mm + 1, rfl⟩
    case measure => simp [intOf]; omega
  ·have hlt2 : ¬ (k : Int) < (toks.length : Int) := by omega
   have hke : k = toks.length := by omega
   subst hke
   have xs1 : ∀ W : World, (Op.stringOp .add x p).run Tryz.prog W = .ok (.string (x ++ p)) W := fun W => run_string_add_sum (P := Tryz.prog) (w := W) _ _ (by omega)
   have HOUT : Box (R = x ++ p) := ⟨by
    rw [HE.out, HX.out, HPZ.out, spP_all _ _ _ _ (Nat.le_refl _), List.drop_length, spS]
    apply ByteArray.ext
    simp [bsL, ByteArray.data_append]⟩
   have ps := HPC.out
   have pkk := pick_bd sl (toks.length : Int) 5 (by omega)
   go_wp2_with (go_at_call 54; refine (pick_any _ _ _ w.heap.size sl _ _ _ (by exact HIm.out) (by omega) (by omega)).mono ?_; rintro e w' ⟨rfl, rfl⟩; rw [HJ.out])
   go_ret
   exact ⟨by rw [HOUT.out]; rfl, HBm.out.1⟩
end
end Go.Proofs.YthoibeajhdhdhaaGreatDoor
