/- Parse of units: what it computes; no program in sight. -/
import Derived.Test.YtpgfpcfmchmbcaaDoorFm
import Derived.Test.YtpgfpcfmchmbcaaDoorZb
import Derived.Test.YtpgfpcfmchmbcaaDoorYa
import Derived.Lib.SplitLaws
import Derived.Lib.AtoiAllCases
set_option linter.unusedVariables false
set_option linter.unusedSimpArgs false
namespace Go.Proofs.YtpgfpcfmchmbcaaDoor
open Go.RowKit FracM

abbrev V3 := Int × Int × Int
def v0 : V3 := (0, 0, 0)
def in7 (x : Int) : Bool := decide (-3 ≤ x) && decide (x ≤ 3)
def okV (u : V3) : Bool := in7 u.1 && in7 u.2.1 && in7 u.2.2
/-- the text of a unit -/
def txL (u : V3) : List UInt8 := if okV u then (if (st3 u.1 u.2.1 u.2.2 3).1 = [] then [49] else (st3 u.1 u.2.1 u.2.2 3).1) ++ (st3 u.1 u.2.1 u.2.2 3).2 else []
def splL (c : UInt8) (s : List UInt8) : List (List UInt8) := Lib.splitK [c] 0 (Lib.count s [c]) s
def nameIx (l : List UInt8) : Option Nat := if l = nmU 0 then some 0 else if l = nmU 1 then some 1 else if l = nmU 2 then some 2 else none
def expOf (p : List UInt8) : Option Int :=
  if (Lib.cut p [94]).2.2 then (match Lib.atoiAll (Lib.cut p [94]).2.1 with | .ok v => if 2 ≤ v ∧ v ≤ 3 then some v else none | _ => none) else some 1
def powL (p : List UInt8) : Option (Nat × Int) :=
  match expOf p with
  | none => none
  | some n => match nameIx (Lib.cut p [94]).1 with
    | none => none
    | some i => some (i, n)
def addAt (u : V3) (i : Nat) (x : Int) : V3 :=
  match i with
  | 0 => (W64 (u.1 + x), u.2.1, u.2.2)
  | 1 => (u.1, W64 (u.2.1 + x), u.2.2)
  | _ => (u.1, u.2.1, W64 (u.2.2 + x))
def addP (sg : Int) : List (List UInt8) → V3 → Option V3
  | [], u => some u
  | p :: ps, u => match powL p with
    | none => none
    | some (i, n) => addP sg ps (addAt u i (n - 2 * n * sg))
def aboveL (h : List UInt8) : List (List UInt8) := if h = [49] then [] else splL 42 h
def parL (s : List UInt8) : Option V3 :=
  match splL 47 s with
  | [] => none
  | h :: t => match addP 0 (aboveL h) v0 with
    | none => none
    | some u => addP 1 t u
def parM (s : List UInt8) : V3 × Int :=
  match parL s with
  | none => (v0, 2)
  | some u => if txL u = s then (u, 0) else (v0, 2)
def unR (n : Nat) : V3 := ((n / 49 : Nat) - 3, (n / 7 % 7 : Nat) - 3, (n % 7 : Nat) - 3)
set_option maxRecDepth 100000 in
theorem par_all : (List.range 343).all (fun n => decide (parL (txL (unR n)) = some (unR n)) && okV (unR n) && !(txL (unR n)).isEmpty) = true := by decide +kernel
theorem par_un {n : Nat} (h : n < 343) : parM (txL (unR n)) = (unR n, 0) ∧ okV (unR n) = true ∧ txL (unR n) ≠ [] := by
  have := List.all_eq_true.1 par_all n (by simpa using h)
  simp only [Bool.and_eq_true, decide_eq_true_eq] at this
  obtain ⟨⟨h1, h2⟩, h3⟩ := this
  refine ⟨?_, h2, ?_⟩
  · unfold parM; rw [h1]; simp
  · intro e; rw [e] at h3; cases h3
theorem un_of {u : V3} (h : okV u = true) : ∃ n, n < 343 ∧ unR n = u := by
  obtain ⟨a, b, c⟩ := u
  simp [okV, in7] at h
  refine ⟨((a + 3) * 49 + (b + 3) * 7 + (c + 3)).toNat, by omega, ?_⟩
  unfold unR
  have e : (((a + 3) * 49 + (b + 3) * 7 + (c + 3)).toNat : Int) = (a + 3) * 49 + (b + 3) * 7 + (c + 3) := Int.toNat_of_nonneg (by omega)
  generalize ((a + 3) * 49 + (b + 3) * 7 + (c + 3)).toNat = n at e
  ext <;> simp only <;> omega
theorem par_ok {u : V3} (h : okV u = true) : parM (txL u) = (u, 0) ∧ txL u ≠ [] := by
  obtain ⟨n, hn, rfl⟩ := un_of h
  exact ⟨(par_un hn).1, (par_un hn).2.2⟩
theorem par_nil : parM [] = (v0, 2) := by decide +kernel
/-- what Parse accepts is the text of a valid unit -/
theorem par_yes {s : List UInt8} {u : V3} {e : Int} (h : parM s = (u, e)) (he : e ≠ 2) : okV u = true ∧ txL u = s ∧ e = 0 := by
  by_cases hs : s = []
  · subst hs; rw [par_nil] at h; cases h; exact absurd rfl he
  unfold parM at h
  split at h
  · cases h; exact absurd rfl he
  · split at h
    · rename_i h2
      cases h
      refine ⟨?_, h2, rfl⟩
      cases ho : okV u with
      | true => rfl
      | false => unfold txL at h2; rw [if_neg (by rw [ho]; simp)] at h2; exact absurd h2.symm hs
    · cases h; exact absurd rfl he
theorem par_no {s : List UInt8} (h : ∀ n, n < 343 → txL (unR n) ≠ s) : parM s = (v0, 2) := by
  obtain ⟨u, e, hp⟩ : ∃ u e, parM s = (u, e) := ⟨_, _, rfl⟩
  by_cases he : e = 2
  · subst he
    rw [hp]
    unfold parM at hp
    split at hp
    · cases hp; rfl
    · split at hp
      · cases hp
      · cases hp; rfl
  · obtain ⟨h1, h2, -⟩ := par_yes hp he
    obtain ⟨n, hn, rfl⟩ := un_of h1
    exact absurd h2 (h n hn)
theorem tx_inj {u v : V3} (hu : okV u = true) (h : txL u = txL v) : u = v := by
  have h1 := (par_ok hu)
  by_cases hv : okV v = true
  · have h2 := par_ok hv
    rw [← h, h1.1] at h2
    exact congrArg Prod.fst h2.1
  · have : txL v = [] := by unfold txL; rw [if_neg hv]
    exact absurd (h.trans this) h1.2
end Go.Proofs.YtpgfpcfmchmbcaaDoor
