/- Trees of the generator are valid. -/
import Derived.Test.YtgomgoacponbkaaDoorQa
import Derived.Test.YtgomgoacponbkaaDoorQh
set_option linter.unusedVariables false
set_option linter.unusedSimpArgs false
namespace Go.Proofs.YtgomgoacponbkaaDoor
open Go.RowKit FracM

def numsL : List Int := [0, 1, 2, 7, 10, 1073741824]
inductive GoodN (ns : List ByteArray) (most : Int) : Nd → Nat → Prop
  | num (x : Int) (h : x ∈ numsL) : GoodN ns most ⟨0, 0, 0, 0, 0, x, 1, ⟨#[]⟩, [], []⟩ 0
  | sel (fn win off k : Int) (nm : ByteArray) (ms : List Mat) (h1 : 0 ≤ fn) (h2 : fn < 8) (hn : nm ∈ ns) (ho : 0 ≤ off) (ho2 : off ≤ most)
      (hw : (fn = 0 ∧ win = 0) ∨ (fn ≠ 0 ∧ 1 ≤ win ∧ win ≤ most)) (hk : (fn ≠ 7 ∧ k = 0) ∨ (fn = 7 ∧ 1 ≤ k ∧ k ≤ win)) (hl : ms.length ≤ 3) (hm : ∀ m ∈ ms, GoodMat m) :
      GoodN ns most ⟨1, fn, win, off, k, 0, 0, nm, ms, []⟩ 0
  | grp (fn k : Int) (bys : List ByteArray) (h1 : 0 ≤ fn) (h2 : fn < 5) (hk : (fn ≠ 4 ∧ k = 0) ∨ (fn = 4 ∧ 1 ≤ k ∧ k ≤ 3)) (hb : bys.Sublist namesL) : GoodN ns most ⟨2, fn, 0, 0, k, 0, 0, ⟨#[]⟩, [], bys⟩ 1
  | bin (fn : Int) (h1 : 0 ≤ fn) (h2 : fn < 4) : GoodN ns most ⟨3, fn, 0, 0, 0, 0, 0, ⟨#[]⟩, [], []⟩ 2
inductive GoodT (ns : List ByteArray) (most : Int) : Tree → Prop
  | mk (d : Nd) (ks : List Tree) (h : GoodN ns most d ks.length) (hk : ∀ t ∈ ks, GoodT ns most t) : GoodT ns most (.node d ks)

theorem bys_ok (p : Option ByteArray) (l : List ByteArray) (h1 : ∀ x ∈ l, nameB x = true) (h2 : l.Pairwise fun a b => leS b a = false) (h3 : ∀ y, p = some y → ∀ x ∈ l, leS x y = false) : bysFrom p l = true := by
  induction l generalizing p with
  | nil => rfl
  | cons x xs ih =>
    rw [List.pairwise_cons] at h2
    have e : bysFrom (some x) xs = true := ih (some x) (fun z hz => h1 z (by simp [hz])) h2.2 (fun y hy z hz => by cases hy; exact h2.1 z hz)
    cases p with
    | none => rw [bysFrom.eq_def]; simp [h1 x (by simp), e]
    | some y => rw [bysFrom.eq_def]; simp [h1 x (by simp), e, h3 y rfl x (by simp)]
theorem namesL_sorted : namesL.Pairwise fun a b => leS b a = false := by decide +kernel
theorem bys_sub {l : List ByteArray} (h : l.Sublist namesL) : bysB l = true :=
  bys_ok none l (fun x hx => (namesL_ok x (h.subset hx)).1) (namesL_sorted.sublist h) (fun y hy => by cases hy)
def NamesOk (ns : List ByteArray) : Prop := ∀ x ∈ ns, nameB x = true ∧ inGroups x = false ∧ x.size ≤ 16
theorem num_valid : ∀ x ∈ numsL, validB x 1 = true := by
  intro x hx
  rw [valid_iff]
  simp [numsL] at hx
  unfold M
  rcases hx with rfl | rfl | rfl | rfl | rfl | rfl <;> exact ⟨by omega, by omega, by omega, by simp⟩
theorem good_chk1 {ns : List ByteArray} {most : Int} {d : Nd} {n : Nat} (h : GoodN ns most d n) (hn : NamesOk ns) (hm : most ≤ 4096) : chk1 d n = 0 := by
  cases h with
  | num x hx =>
    have hv := num_valid x hx
    unfold chk1
    rw [if_neg (by simp [shapedB, noSelB, hv, ByteArray.toList_eq]), if_neg (by simp [namedB, bysB, bysFrom]), if_neg (by simp), if_neg (by simp [rangedB])]
  | sel fn win off k nm ms h1 h2 hnm ho ho2 hw hk hl hms =>
    obtain ⟨n1, n2, _⟩ := hn nm hnm
    have hb : bysB [] = true := rfl
    have hv : ms.all vmatB = true := by rw [List.all_eq_true]; exact fun m hm => (hms m hm).valid
    unfold chk1
    rw [if_neg (by simp [shapedB, noNumB]; omega), if_neg (by simp [namedB, n1, n2, hb]; exact fun a b c hm => (hms _ hm).valid), if_neg (by simp; omega)]
    rw [if_neg]
    simp only [rangedB]
    rcases hw with ⟨w1, w2⟩ | ⟨w1, w2, w3⟩
    · have : k = 0 := by omega
      simp [w1, w2, this, ho]; omega
    · rcases hk with ⟨k1, k2⟩ | ⟨k1, k2, k3⟩
      · simp [w1, k1, k2, ho]; omega
      · simp [w1, k1, ho]; omega
  | grp fn k bys h1 h2 hk hb =>
    have hv := bys_sub hb
    have hl : bys.length ≤ 6 := by simpa [namesL] using hb.length_le
    unfold chk1
    rw [if_neg (by simp [shapedB, noNumB, noSelB, ByteArray.toList_eq]; omega), if_neg (by simp [namedB, hv]), if_neg (by simp; omega)]
    rw [if_neg]
    simp only [rangedB]
    rcases hk with ⟨k1, k2⟩ | ⟨k1, k2, k3⟩
    · simp [k1, k2]
    · simp [k1]; omega
  | bin fn h1 h2 =>
    unfold chk1
    rw [if_neg (by simp [shapedB, noNumB, noSelB, ByteArray.toList_eq]; omega), if_neg (by simp [namedB, bysB, bysFrom]), if_neg (by simp), if_neg (by simp [rangedB])]
theorem chkL_zero {ts : List Tree} (h : ∀ t ∈ ts, chk t = 0) : chkL ts = 0 := by
  induction ts with
  | nil => rfl
  | cons t ts ih => rw [chkL, if_pos (h t (by simp)), ih (fun x hx => h x (by simp [hx]))]
theorem good_chk {ns : List ByteArray} {most : Int} (hn : NamesOk ns) (hm : most ≤ 4096) {t : Tree} (h : GoodT ns most t) : chk t = 0 := by
  induction h with
  | mk d ks h hk ih => rw [chk, if_pos (good_chk1 h hn hm), chkL_zero ih]
theorem good_valid {ns : List ByteArray} {most : Int} (hn : NamesOk ns) (hm : most ≤ 4096) {t : Tree} (h : GoodT ns most t) (h1 : dep t ≤ 12) (h2 : nds t ≤ 200) : validE t = 0 := by
  unfold validE fitB
  rw [decide_eq_true h2, decide_eq_true h1]
  simpa using good_chk hn hm h
/-- numbers and strings fit -/
theorem good_ok1 {ns : List ByteArray} {most : Int} {d : Nd} {n : Nat} (h : GoodN ns most d n) (hn : NamesOk ns) (hm : most ≤ 4096) : -9223372036854775808 ≤ d.k ∧ d.k ≤ 4096 ∧ (∀ m ∈ d.ms, m.1.size ≤ maxLen ∧ m.2.2.size ≤ maxLen) ∧ (∀ s ∈ d.bys, s.size ≤ maxLen) := by
  cases h with
  | num x hx => exact ⟨by simp, by simp, by simp, by simp⟩
  | sel fn win off k nm ms h1 h2 hnm ho ho2 hw hk hl hms => exact ⟨by simp only; omega, by simp only; omega, fun m hm => (good_ok (by omega) hms).2 m hm, by simp⟩
  | grp fn k bys h1 h2 hk hb => exact ⟨by simp only; omega, by simp only; omega, by simp, fun s hs => by have := (namesL_ok s (hb.subset hs)).2; unfold maxLen; omega⟩
  | bin fn h1 h2 => exact ⟨by simp, by simp, by simp, by simp⟩
def ns3 : List ByteArray := [⟨#[99, 112, 117]⟩, ⟨#[109, 101, 109]⟩, ⟨#[97]⟩]
def ns1 : List ByteArray := [⟨#[99, 112, 117]⟩]
theorem ns3_ok : NamesOk ns3 := by unfold NamesOk; decide +kernel
theorem ns1_ok : NamesOk ns1 := by unfold NamesOk; decide +kernel
end Go.Proofs.YtgomgoacponbkaaDoor
