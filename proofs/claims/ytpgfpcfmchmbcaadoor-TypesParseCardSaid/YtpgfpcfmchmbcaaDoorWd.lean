/- Parse of package types. -/
import Derived.Test.YtpgfpcfmchmbcaaDoorWc
import Derived.Test.YtpgfpcfmchmbcaaDoorZd
import Derived.Deep.CutBlock
set_option linter.unusedVariables false
set_option linter.unusedSimpArgs false
namespace Go.Proofs.YtpgfpcfmchmbcaaDoor
open Go.RowKit FracM

theorem ok_inU (u : V3) : inU u.1 u.2.1 u.2.2 = okV u := by
  unfold inU okV in7 inR
  simp only [Bool.and_assoc]
theorem tx_any (u : V3) (w : World) (hw : WordsW w) : Calls Tryd.prog 7 #[uv u.1 u.2.1 u.2.2] w (RetB (.string (bs (txL u))) w) := by
  unfold txL
  cases h : okV u with
  | false =>
    rw [if_neg (by simp)]
    exact text_bad u.1 u.2.1 u.2.2 w (by rw [ok_inU, h])
  | true =>
    rw [if_pos rfl]
    simp [okV, in7] at h
    exact text_any u.1 u.2.1 u.2.2 w hw (by omega) (by omega) (by omega) (by omega) (by omega) (by omega)
/-- what is left to do: in list j, the names l are left -/
def restI (tl : List (List UInt8)) (j : Nat) (l : List (List UInt8)) (q : V3) : Option V3 :=
  if j = 0 then (match addP 0 l q with | none => none | some u => addP 1 tl u) else addP 1 l q
def restO (ab tl : List (List UInt8)) (j : Nat) (q : V3) : Option V3 := if j = 0 then restI tl 0 ab q else if j = 1 then restI tl 1 tl q else some q
theorem rest_end (ab tl : List (List UInt8)) (j : Nat) (hj : j < 2) (q : V3) : restI tl j [] q = restO ab tl (j + 1) q := by
  have : j = 0 ∨ j = 1 := by omega
  rcases this with rfl | rfl <;> rfl
theorem rest_bad (tl : List (List UInt8)) (j : Nat) (p : List UInt8) (l : List (List UInt8)) (q : V3) (h : powL p = none) : restI tl j (p :: l) q = none := by
  unfold restI
  split
  · rw [addP, h]
  · rw [addP, h]
theorem rest_step (tl : List (List UInt8)) (j : Nat) (hj : j < 2) (p : List UInt8) (l : List (List UInt8)) (q : V3) (k : Nat) (n : Int) (h : powL p = some (k, n)) : restI tl j (p :: l) q = restI tl j l (addAt q k (n - 2 * n * j)) := by
  have : j = 0 ∨ j = 1 := by omega
  rcases this with rfl | rfl
  · unfold restI; rw [if_pos rfl, if_pos rfl, addP, h]; rfl
  · unfold restI; rw [if_neg (by decide), if_neg (by decide), addP, h]; rfl
theorem par_rest {s h : List UInt8} {t : List (List UInt8)} (hs : splL 47 s = h :: t) : parL s = restO (aboveL h) t 0 v0 := by
  unfold parL restO restI; rw [hs]; rfl
theorem parM_bad {s : List UInt8} (h : parL s = none) : parM s = (v0, 2) := by unfold parM; rw [h]
theorem parM_ok {s : List UInt8} {u : V3} (h : parL s = some u) : parM s = if txL u = s then (u, 0) else (v0, 2) := by unfold parM; rw [h]
theorem spl_ne (c : UInt8) (s : List UInt8) : ∃ h t, splL c s = h :: t := by
  unfold splL
  cases Lib.count s [c] with
  | zero => exact ⟨_, _, rfl⟩
  | succ k =>
    unfold Lib.splitK
    split
    · exact ⟨_, _, rfl⟩
    · exact ⟨_, _, rfl⟩
theorem splK_cnt (c : UInt8) : ∀ (k : Nat) (s : List UInt8), (Lib.splitK [c] 0 k s).length ≤ k + 1
  | 0, s => by simp [Lib.splitK]
  | k + 1, s => by
    unfold Lib.splitK
    split
    · simp
    · have := splK_cnt c k (s.drop ((Lib.index s [c]).toNat + [c].length))
      simp at this ⊢; omega
theorem spl_cnt (c : UInt8) (s : List UInt8) : (splL c s).length ≤ s.length + 1 := by
  unfold splL
  have h1 := splK_cnt c (Lib.count s [c]) s
  have h2 : Lib.count s [c] ≤ s.length := by rw [Lib.count_one]; exact List.count_le_length
  omega
abbrev vC (u : V3) : Array Value := #[.int .i64 u.1, .int .i64 u.2.1, .int .i64 u.2.2]
/-- a row of strings at an address -/
def SA (w : World) (A : Option Addr) (l : List (List UInt8)) : Prop := ∀ (k : Nat) (x : List UInt8), l[k]? = some x → ∃ b off, A = some ⟨b, off, none⟩ ∧ b < w.heap.size ∧ w.cell? ⟨b, off + k, none⟩ = some (.string (bs x))
theorem SA.below {w w' : World} {A : Option Addr} {l : List (List UInt8)} (h : SA w A l) (hb : Below w.heap.size w w') : SA w' A l := fun k x hx => by
  obtain ⟨b, off, hA, hlt, hc⟩ := h k x hx
  exact ⟨b, off, hA, Nat.lt_of_lt_of_le hlt hb.size, (hb.cell hlt).trans hc⟩
/-- blocks from B on that are no row of strings -/
theorem SA.far {w w' : World} {A : Option Addr} {l : List (List UInt8)} {B : Nat} (h : SA w A l) (hz : w.heap.size ≤ w'.heap.size) (hA : ∀ b off, A = some ⟨b, off, none⟩ → b ≠ B) (hc : ∀ b o, b ≠ B → w'.cell? ⟨b, o, none⟩ = w.cell? ⟨b, o, none⟩) : SA w' A l := fun k x hx => by
  obtain ⟨b, off, h1, hlt, h2⟩ := h k x hx
  exact ⟨b, off, h1, Nat.lt_of_lt_of_le hlt hz, (hc b _ (hA b off h1)).trans h2⟩
theorem SL.sa {w : World} {b : Nat} {l : List (List UInt8)} (h : SL w b l) : SA w (some ⟨b, 0, none⟩) l := fun k x hx => ⟨b, 0, rfl, h.lt, by rw [Nat.zero_add]; exact h.at_ k x hx⟩
theorem SL.tail {w : World} {b : Nat} {x : List UInt8} {l : List (List UInt8)} (h : SL w b (x :: l)) : SA w (some ⟨b, 1, none⟩) l := fun k y hy => ⟨b, 1, rfl, h.lt, by rw [Nat.add_comm]; exact h.at_ (k + 1) y (by simpa using hy)⟩
structure PF (w W : World) (q : V3) : Prop where
  below : Below w.heap.size w W
  R : Blk W w.heap.size 23 #[.int .i64 0, .int .i64 0, .int .i64 0]
  U : Blk W (w.heap.size + 1) 23 (vC q)
theorem PF.next {w W W' : World} {q : V3} (h : PF w W q) (hb : Below W.heap.size W W') : PF w W' q := ⟨bthen h.below hb (Nat.le_refl _), h.R.below hb, h.U.below hb⟩
theorem PF.start (w : World) : PF w ((w.alloc (.cells #[.int .i64 0, .int .i64 0, .int .i64 0] 23)).alloc (.cells #[.int .i64 0, .int .i64 0, .int .i64 0] 23)) v0 := ⟨bel2 _ _ _, (Blk.new _ _ _).alloc _, Blk.newAt _ _ (by simp)⟩
/-- the two lists, in a row of their own -/
structure PL (w W : World) (b : Nat) (A A' : Option Addr) (c c' : Nat) (ab tl : List (List UInt8)) : Prop where
  lt : b < W.heap.size ∧ w.heap.size + 1 < b
  c0 : W.cell? ⟨b, 0, none⟩ = some (.slice A ab.length c)
  c1 : W.cell? ⟨b, 1, none⟩ = some (.slice A' tl.length c')
  s0 : SA W A ab
  s1 : SA W A' tl
  f0 : ∀ b off, A = some ⟨b, off, none⟩ → b ≠ w.heap.size + 1
  f1 : ∀ b off, A' = some ⟨b, off, none⟩ → b ≠ w.heap.size + 1
theorem PL.next {w W W' : World} {b : Nat} {A A' : Option Addr} {c c' : Nat} {ab tl : List (List UInt8)} (h : PL w W b A A' c c' ab tl) (hb : Below W.heap.size W W') : PL w W' b A A' c c' ab tl := ⟨⟨Nat.lt_of_lt_of_le h.lt.1 hb.size, h.lt.2⟩, (hb.cell h.lt.1).trans h.c0, (hb.cell h.lt.1).trans h.c1, h.s0.below hb, h.s1.below hb, h.f0, h.f1⟩
theorem PL.set {w W : World} {b : Nat} {A A' : Option Addr} {c c' : Nat} {ab tl : List (List UInt8)} (h : PL w W b A A' c c' ab tl) (o : Nat) (v : Value) : PL w (W.setCell ⟨w.heap.size + 1, o, none⟩ v) b A A' c c' ab tl := by
  have hn : ∀ b o', b ≠ w.heap.size + 1 → (W.setCell ⟨w.heap.size + 1, o, none⟩ v).cell? ⟨b, o', none⟩ = W.cell? ⟨b, o', none⟩ := fun b o' hb => World.cell?_of_block (a := ⟨b, o', none⟩) (Below.heap_setCell _ _ _ _ hb)
  have hz : (W.setCell ⟨w.heap.size + 1, o, none⟩ v).heap.size = W.heap.size := by simp
  have hl := h.lt
  exact ⟨⟨by omega, hl.2⟩, (hn _ _ (by omega)).trans h.c0, (hn _ _ (by omega)).trans h.c1, h.s0.far (by omega) h.f0 hn, h.s1.far (by omega) h.f1 hn, h.f0, h.f1⟩
theorem PF.set {w W : World} {q : V3} (h : PF w W q) (k : Nat) (x : Int) (v : Int) (q' : V3) (hq : (vC q).setIfInBounds k (.int .i64 v) = vC q') : PF w (W.setCell ⟨w.heap.size + 1, k, none⟩ (.int .i64 v)) q' :=
  ⟨h.below.setCell (p := ⟨w.heap.size + 1, k, none⟩) (by simp only; omega) _, h.R.far (p := ⟨w.heap.size + 1, k, none⟩) (by simp) _, by have := h.U.set k (.int .i64 v); rw [hq] at this; exact this⟩
theorem add_vC (q : V3) (k : Nat) (hk : k < 3) (x : Int) : (vC q).setIfInBounds k (.int .i64 (match k with | 0 => W64 (q.1 + x) | 1 => W64 (q.2.1 + x) | _ => W64 (q.2.2 + x))) = vC (addAt q k x) := by
  have : k = 0 ∨ k = 1 ∨ k = 2 := by omega
  rcases this with rfl | rfl | rfl <;> rfl
theorem drop_step {α : Type} {l : List α} {k : Nat} {x : α} (hx : l[k]? = some x) : l.drop k = x :: l.drop (k + 1) := by
  obtain ⟨h, rfl⟩ := List.getElem?_eq_some_iff.1 hx
  exact List.drop_eq_getElem_cons h
theorem SA.nil (w : World) (A : Option Addr) : SA w A [] := fun k x hx => by simp at hx
theorem PL.start {w w2 : World} {A A' : Option Addr} {c c' : Nat} {al tl : List (List UInt8)} (hlt : w.heap.size + 1 < w2.heap.size) (s0 : SA w2 A al) (s1 : SA w2 A' tl) (f0 : ∀ b off, A = some ⟨b, off, none⟩ → b ≠ w.heap.size + 1) (f1 : ∀ b off, A' = some ⟨b, off, none⟩ → b ≠ w.heap.size + 1) (ty : TypeId) : PL w (w2.alloc (.cells #[.slice A al.length c, .slice A' tl.length c'] ty)) w2.heap.size A A' c c' al tl := by
  obtain ⟨h0, h1⟩ := (Blk.new w2 #[.slice A al.length c, .slice A' tl.length c'] ty).c2
  exact ⟨⟨by simp, hlt⟩, h0, h1, s0.below (bel1 _ _), s1.below (bel1 _ _), f0, f1⟩
set_option maxHeartbeats 4000000 in
set_option maxRecDepth 100000 in
theorem parse_any (s : ByteArray) (w : World) (hs : s.size ≤ 900) (hw : WordsW w) (hl : LibP w) :
    Calls Tryd.prog 6 #[.string s] w (RetB (.tuple #[uv (parM s.data.toList).1.1 (parM s.data.toList).1.2.1 (parM s.data.toList).1.2.2, .int .i64 (parM s.data.toList).2]) w) := by
  have HW := Box.mk (And.intro hw hl)
  obtain ⟨h, t, hp⟩ := spl_ne 47 s.data.toList
  have HP := Box.mk hp
  have hln : (h :: t).length ≤ s.size + 1 := by rw [← hp, ← ssz s]; exact spl_cnt 47 _
  have hhn : ∀ x ∈ (h :: t), x.length ≤ s.size := by rw [← hp, ← ssz s]; exact spl_len 47 _
  have hh : h.length ≤ s.size := hhn h (by simp)
  have HTN : Box (∀ x ∈ t, x.length ≤ s.size) := ⟨fun x hx => hhn x (by simp [hx])⟩
  have HPR := Box.mk (par_rest hp)
  clear hw hl hp hhn
  simp only [List.length_cons] at hln
  go_enter Tryd.func6, Tryd.ntmps6
  go_upto_region 2 with (fail)
  have HF := Box.mk (PF.start w)
  generalize ((w.alloc (.cells #[.int .i64 0, .int .i64 0, .int .i64 0] 23)).alloc (.cells #[.int .i64 0, .int .i64 0, .int .i64 0] 23)) = W at HF ⊢
  go_wp2_with fail
  refine (split_any s 47 _ (by omega) (HW.out.2.below HF.out.below)).mono ?_
  rintro e w1 ⟨pb, rfl, hsl, hpb, hb⟩
  rw [HP.out] at hsl ⊢
  have hpb2 : w.heap.size + 1 < pb := by have := HF.out.U.lt; omega
  have HF1 := Box.mk (HF.out.next hb)
  have HS1 := Box.mk hsl
  have p0 : w1.cell? ⟨pb, 0, none⟩ = some (.string (bs h)) := hsl.at_ 0 h rfl
  clear hsl hb HF
  simp only [List.length_cons]
  have hn1 : (0 : Int) < ((t.length + 1 : Nat) : Int) := by omega
  go_wp2_with fail
  refine (split_any (bs h) 42 _ (by rw [bs_size]; omega) (HW.out.2.below HF1.out.below)).mono ?_
  rintro e w2 ⟨ab, rfl, hsl2, hab, hb⟩
  rw [bs_data] at hsl2 ⊢
  have HF2 := Box.mk (HF1.out.next hb)
  have HS2 := Box.mk (HS1.out.below hb)
  have HA2 := Box.mk hsl2
  have hab2 : w.heap.size + 1 < ab := by have := HF1.out.U.lt; omega
  clear p0 hsl2 hb HF1 HS1 hpb hab
  have p0 : w2.cell? ⟨pb, 0, none⟩ = some (.string (bs h)) := HS2.out.at_ 0 h rfl
  go_upto_if 23 with (fail)
  go_cut [6] (fun v wx => ∃ (A : Option Addr) (c : Nat), v = .slice A (aboveL h).length c ∧ SA w2 A (aboveL h) ∧ (∀ b off, A = some ⟨b, off, none⟩ → b ≠ w.heap.size + 1) ∧ wx = w2)
  case first =>
    by_cases h1 : h = [49]
    · have hq : ((bs h).toList == [49]) = true := by rw [bs_toL, h1]; rfl
      have e1 : aboveL h = [] := by unfold aboveL; rw [if_pos h1]
      clear h1
      rw [hq]
      go_wp2_with fail
      go_meet
      exact ⟨none, 0, by rw [e1]; rfl, fun k x hx => by rw [e1] at hx; simp at hx, fun b off hA => by simp at hA, rfl⟩
    · have hq : ((bs h).toList == [49]) = false := by rw [bs_toL]; simpa using h1
      have e1 : aboveL h = splL 42 h := by unfold aboveL; rw [if_neg h1]
      clear h1
      rw [hq]
      go_wp2_with fail
      go_meet
      exact ⟨some ⟨ab, 0, none⟩, _, by rw [e1], by rw [e1]; exact HA2.out.sa, fun b off hA => by cases hA; omega, rfl⟩
  case rest =>
    obtain ⟨A, c, rfl, hsa, hfa, hwx⟩ := hcut
    subst hwx
    rename World => w2
    have HSA := Box.mk (And.intro hsa hfa)
    clear hsa hfa HA2 p0
    generalize hal : aboveL h = al at HSA HPR ⊢
    go_upto_region 6 with (fail)
    have hzW := HF2.out.U.lt
    go_cut [27, 28, 29] (fun r m z wx => ∃ (A' : Option Addr) (c' : Nat), r = .slice (some ⟨w2.heap.size, 0, none⟩) 2 2 ∧ m = .int .i64 2 ∧ z = .int .i64 0 ∧ PL w wx w2.heap.size A A' c c' al t ∧ PF w wx v0)
    case first =>
      have f1 : ∀ o b off, (some ⟨pb, o, none⟩ : Option Addr) = some ⟨b, off, none⟩ → b ≠ w.heap.size + 1 := fun o b off hA => by simp at hA; omega
      go_wp2_with fail
      · subst h
        go_meet
        exact ⟨some ⟨pb, 0, none⟩, 0, rfl, rfl, rfl, PL.start hzW HSA.out.1 (SA.nil _ _) HSA.out.2 (f1 0) _, HF2.out.next (bel1 _ _)⟩
      · go_meet
        exact ⟨some ⟨pb, 1, none⟩, t.length, rfl, rfl, rfl, PL.start hzW HSA.out.1 HS2.out.tail HSA.out.2 (f1 1) _, HF2.out.next (bel1 _ _)⟩
    case rest =>
      obtain ⟨A', c', rfl, rfl, rfl, hpl, hpf⟩ := hcut
      rename World => w3
      have HL3 := Box.mk hpl
      have HF3 := Box.mk hpf
      have hrb : w2.heap.size ≠ w.heap.size + 1 := by omega
      have HALN : Box ((∀ x ∈ al, x.length ≤ s.size) ∧ al.length ≤ 1000) := ⟨by
        rw [← hal]; unfold aboveL
        split
        · simp
        · exact ⟨fun x hx => by have := spl_len 42 _ x hx; omega, by have := spl_cnt 42 h; omega⟩⟩
      clear hpl hpf HF2 HS2 HSA hal
      go_wp2_with fail
      go_loopw [29] (fun v wr => ∃ (j : Nat) (q : V3), j ≤ 2 ∧ v = .int .i64 (j : Nat) ∧ Box (parL s.data.toList = restO al t j q) ∧ PF w wr q ∧ PL w wr w2.heap.size A A' c c' al t) (fun v _ => 2 - (intOf v).toNat)
      case atStart => exact ⟨0, v0, by omega, rfl, HPR, HF3.out, HL3.out⟩
      case round =>
        clear HF3 HL3
        obtain ⟨j, q, hj2, rfl, HR, hpf, hpl⟩ := hrel
        have HF := Box.mk hpf
        have HL := Box.mk hpl
        clear hpf hpl
        by_cases hj : j < 2
        · obtain ⟨B, l, cc, hcell, hsel, hrest, hln2, hll⟩ : ∃ (B : Option Addr) (l : List (List UInt8)) (cc : Nat), wr.cell? ⟨w2.heap.size, j, none⟩ = some (.slice B l.length cc) ∧ (∀ W, PL w W w2.heap.size A A' c c' al t → SA W B l) ∧ (restO al t j q = restI t j l q) ∧ (∀ x ∈ l, x.length ≤ s.size) ∧ l.length ≤ 1000 := by
            have : j = 0 ∨ j = 1 := by omega
            rcases this with rfl | rfl
            · exact ⟨A, al, c, HL.out.c0, fun W h => h.s0, rfl, HALN.out.1, HALN.out.2⟩
            · exact ⟨A', t, c', HL.out.c1, fun W h => h.s1, rfl, HTN.out, by omega⟩
          have hj3 : (j : Int) < 2 := by omega
          have HSEL := Box.mk hsel
          have HLN := Box.mk hln2
          have HR2 : Box (parL s.data.toList = restI t j (l.drop 0) q) := ⟨by rw [HR.out, hrest]; rfl⟩
          clear hsel hln2 hrest HR
          go_wp2_with fail
          clear hcell
          go_loopw [36] (fun v wx => ∃ (i : Nat) (q : V3), i ≤ l.length ∧ v = .int .i64 (i : Nat) ∧ Box (parL s.data.toList = restI t j (l.drop i) q) ∧ PF w wx q ∧ PL w wx w2.heap.size A A' c c' al t) (fun v _ => l.length - (intOf v).toNat)
          case atStart => exact ⟨0, q, by omega, rfl, HR2, HF.out, HL.out⟩
          case round =>
            clear HF HL HR2
            obtain ⟨i, q, hi2, rfl, HR, hpf, hpl⟩ := hrel
            have HF := Box.mk hpf
            have HL := Box.mk hpl
            clear hpf hpl
            by_cases hi : i < l.length
            · have hi3 : (i : Int) < (l.length : Int) := by omega
              obtain ⟨x, hx⟩ : ∃ x, l[i]? = some x := ⟨l[i], List.getElem?_eq_getElem _⟩
              obtain ⟨b, off, rfl, hb, hcx⟩ := HSEL.out _ HL.out i x hx
              have HX := Box.mk (drop_step hx)
              have hxs := HLN.out x (List.mem_of_getElem? hx)
              clear hx
              go_wp2_with fail
              refine (power_any (bs x) _ (by rw [bs_size]; omega) (HW.out.1.below HF.out.below) (HW.out.2.below HF.out.below)).mono ?_
              rintro e w5 ⟨i', n, ok, rfl, hrel, hb5⟩
              rw [bs_data] at hrel
              have HF5 := Box.mk (HF.out.next hb5)
              have HL5 := Box.mk (HL.out.next hb5)
              clear hb5 HF HL hcx
              rcases hrel with ⟨rfl, hno⟩ | ⟨k, hk, rfl, rfl, hn1', hn3, hyes⟩
              · have HM : Box (parM s.data.toList = (v0, 2)) := ⟨parM_bad (by rw [HR.out, HX.out, rest_bad _ _ _ _ _ hno])⟩
                clear hno
                obtain ⟨r0, r1, r2⟩ := HF5.out.R.c3
                have rf := HF5.out.R.frozen
                go_wp2_with fail
                exact bodyPost_ret (v := .tuple #[uv 0 0 0, .int .i64 2]) (by simp [results, Tryd.results6, go_sem, r0, r1, r2, rf]) rfl ⟨by rw [HM.out]; try rfl, bset3 HF5.out.below (by omega) _ _ _⟩
              · have HST : Box (parL s.data.toList = restI t j (l.drop (i + 1)) (addAt q k (n - 2 * n * j))) := ⟨by rw [HR.out, HX.out, rest_step _ _ hj _ _ _ _ _ hyes]⟩
                clear hyes
                have t1 : IntKind.i64.wrap (2 * n) = 2 * n := W64_in (by omega) (by omega)
                have hy : -6 ≤ 2 * n * (j : Int) ∧ 2 * n * (j : Int) ≤ 6 := by
                  have : j = 0 ∨ j = 1 := by omega
                  rcases this with rfl | rfl <;> simp <;> omega
                have t2 : IntKind.i64.wrap (2 * n * (j : Int)) = 2 * n * (j : Int) := W64_in (by omega) (by omega)
                have t3 : IntKind.i64.wrap (n - 2 * n * (j : Int)) = n - 2 * n * (j : Int) := W64_in (by omega) (by omega)
                obtain ⟨v0', v1', v2'⟩ := HF5.out.U.c3
                have vf := HF5.out.U.frozen
                have hk3 : k = 0 ∨ k = 1 ∨ k = 2 := by omega
                rcases hk3 with rfl | rfl | rfl
                · obtain ⟨z, HZ⟩ : ∃ z, Box (W64 (q.1 + (n - 2 * n * (j : Int))) = z) := ⟨_, ⟨rfl⟩⟩
                  have hz := HZ.out
                  unfold W64 at hz
                  go_wp2_with fail
                  go_roundw
                  case rel => exact ⟨i + 1, addAt q 0 (n - 2 * n * (j : Int)), by omega, by go_num, HST, HF5.out.set 0 0 z _ (by rw [← HZ.out]; rfl), HL5.out.set 0 _⟩
                  case measure => simp [intOf]; omega
                · obtain ⟨z, HZ⟩ : ∃ z, Box (W64 (q.2.1 + (n - 2 * n * (j : Int))) = z) := ⟨_, ⟨rfl⟩⟩
                  have hz := HZ.out
                  unfold W64 at hz
                  go_wp2_with fail
                  go_roundw
                  case rel => exact ⟨i + 1, addAt q 1 (n - 2 * n * (j : Int)), by omega, by go_num, HST, HF5.out.set 1 0 z _ (by rw [← HZ.out]; rfl), HL5.out.set 1 _⟩
                  case measure => simp [intOf]; omega
                · obtain ⟨z, HZ⟩ : ∃ z, Box (W64 (q.2.2 + (n - 2 * n * (j : Int))) = z) := ⟨_, ⟨rfl⟩⟩
                  have hz := HZ.out
                  unfold W64 at hz
                  go_wp2_with fail
                  go_roundw
                  case rel => exact ⟨i + 1, addAt q 2 (n - 2 * n * (j : Int)), by omega, by go_num, HST, HF5.out.set 2 0 z _ (by rw [← HZ.out]; rfl), HL5.out.set 2 _⟩
                  case measure => simp [intOf]; omega
            · have HE : Box (parL s.data.toList = restO al t (j + 1) q) := ⟨by rw [HR.out, List.drop_of_length_le (by omega), rest_end _ _ _ hj]⟩
              go_wp2_with fail
              go_roundw
              case rel => exact ⟨j + 1, q, by omega, by go_num, HE, HF.out, HL.out⟩
              case measure => simp [intOf]; omega
        · have hj4 : j = 2 := by omega
          subst hj4
          have HPL := Box.mk (parM_ok (HR.out.trans rfl))
          obtain ⟨v0', v1', v2'⟩ := HF.out.U.c3
          go_wp2_with fail
          refine (tx_any q _ (HW.out.1.below HF.out.below)).mono ?_
          rintro e w5 ⟨rfl, hb5⟩
          have HF5 := Box.mk (HF.out.next hb5)
          clear hb5 HF HL v0' v1' v2'
          by_cases hx : txL q = s.data.toList
          · have hq : ((bs (txL q)).toList == s.toList) = true := by rw [bs_toL, toL, hx]; simp
            have hq2 : ((bs (txL q)).toList != s.toList) = false := by rw [bne, hq]; rfl
            have HM : Box (parM s.data.toList = (q, 0)) := ⟨by rw [HPL.out, if_pos hx]⟩
            clear hx
            obtain ⟨v0', v1', v2'⟩ := HF5.out.U.c3
            obtain ⟨r0, r1, r2⟩ := HF5.out.R.c3
            have rf := HF5.out.R.frozen
            go_wp2_with fail
            exact bodyPost_ret (v := .tuple #[uv q.1 q.2.1 q.2.2, .int .i64 0]) (by simp [results, Tryd.results6, go_sem, r0, r1, r2, rf]) rfl ⟨by rw [HM.out]; try rfl, bset3 HF5.out.below (by omega) _ _ _⟩
          · have hq : ((bs (txL q)).toList == s.toList) = false := by rw [bs_toL, toL, beq_eq_false_iff_ne]; exact hx
            have hq2 : ((bs (txL q)).toList != s.toList) = true := by rw [bne, hq]; rfl
            have HM : Box (parM s.data.toList = (v0, 2)) := ⟨by rw [HPL.out, if_neg hx]⟩
            clear hx
            obtain ⟨r0, r1, r2⟩ := HF5.out.R.c3
            have rf := HF5.out.R.frozen
            go_wp2_with fail
            exact bodyPost_ret (v := .tuple #[uv 0 0 0, .int .i64 2]) (by simp [results, Tryd.results6, go_sem, r0, r1, r2, rf]) rfl ⟨by rw [HM.out]; try rfl, bset3 HF5.out.below (by omega) _ _ _⟩
end Go.Proofs.YtpgfpcfmchmbcaaDoor
