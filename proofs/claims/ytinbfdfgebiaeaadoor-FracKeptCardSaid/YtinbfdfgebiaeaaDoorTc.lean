/- Parse of a Text. -/
import Derived.Test.YtinbfdfgebiaeaaDoorTb
set_option linter.unusedVariables false
set_option linter.unusedSimpArgs false
namespace Go.Proofs.YtinbfdfgebiaeaaDoor
open Go.RowKit FracM

theorem idx_none : ∀ (l : List UInt8), (∀ c ∈ l, c ≠ 47) → Lib.index l [47] = -1
  | [], _ => rfl
  | b :: l, h => by
    have hb : b ≠ 47 := h b (by simp)
    unfold Lib.index
    rw [idx_none l (fun c hc => h c (by simp [hc]))]
    have : ([47].isPrefixOf (b :: l)) = false := by
      simp [List.isPrefixOf]; exact fun e => hb e.symm
    rw [this]; rfl
theorem idx_app (r : List UInt8) : ∀ (l : List UInt8), (∀ c ∈ l, c ≠ 47) → Lib.index (l ++ 47 :: r) [47] = l.length
  | [], _ => by unfold Lib.index; simp [List.isPrefixOf]
  | b :: l, h => by
    have hb : b ≠ 47 := h b (by simp)
    show Lib.index (b :: (l ++ 47 :: r)) [47] = _
    unfold Lib.index
    rw [idx_app r l (fun c hc => h c (by simp [hc]))]
    have : ([47].isPrefixOf (b :: (l ++ 47 :: r))) = false := by
      simp [List.isPrefixOf]; exact fun e => hb e.symm
    rw [this]
    have h2 : ((l.length : Int) == -1) = false := by rw [beq_eq_false_iff_ne]; omega
    simp [h2]
theorem cut_none {l : List UInt8} (h : ∀ c ∈ l, c ≠ 47) : Lib.cut l [47] = (l, [], false) := by
  unfold Lib.cut; rw [idx_none l h]; rfl
theorem cut_app {l r : List UInt8} (h : ∀ c ∈ l, c ≠ 47) : Lib.cut (l ++ 47 :: r) [47] = (l, r, true) := by
  unfold Lib.cut; rw [idx_app r l h, if_pos (by omega)]; simp
theorem itoa_ne (n : Int) : Lib.itoa n ≠ [] := by
  unfold Lib.itoa; split
  · simp
  · exact dec_ne _
def textL (n d : Int) : List UInt8 := if d = 1 then Lib.itoa n else Lib.itoa n ++ 47 :: Lib.itoa d
theorem textF_l {n d : Int} (v : validB n d = true) : textF n d = bs (textL n d) := by
  unfold textF textL
  rw [if_pos v]
  split
  · rfl
  · show bs (Lib.itoa n) ++ (bs [47] ++ bs (Lib.itoa d)) = _
    rw [bs_app, bs_app]; rfl
theorem bs_data (l : List UInt8) : (bs l).data.toList = l := by simp [bs]
theorem toL (l : List UInt8) : (bs l).toList = l := by
  have : (bs l).toList = (bs l).data.toList := ByteArray.toList_eq _
  rw [this, bs_data]
theorem parse_text {n d : Int} (v : validB n d = true) : parseF (textF n d) = (n, d, 0) := by
  obtain ⟨b1, b2, b3⟩ := valid_bd v
  have hne : textL n d ≠ [] := by unfold textL; split; exact itoa_ne n; simp
  have hL : Lib.atoiAll (cutL (textF n d)).data.toList = .ok n := by
    rw [textF_l v]
    unfold cutL
    rw [bs_data]
    show Lib.atoiAll (bs _).data.toList = _
    rw [bs_data]
    unfold textL
    split
    · rw [cut_none (itoa_noslash n)]; exact atoi_itoa n (by omega) (by omega)
    · rw [cut_app (itoa_noslash n)]; exact atoi_itoa n (by omega) (by omega)
  have hR : Lib.atoiAll (cutR (textF n d)).data.toList = .ok d := by
    rw [textF_l v]
    unfold cutR
    rw [bs_data]
    unfold textL
    split
    · rename_i h1
      rw [cut_none (itoa_noslash n)]
      subst h1
      show Lib.atoiAll [49] = _
      decide +kernel
    · rw [cut_app (itoa_noslash n)]
      show Lib.atoiAll (bs _).data.toList = _
      rw [bs_data]; exact atoi_itoa d (by omega) (by omega)
  rw [parse_ok hL hR, if_neg]
  rw [textF_l v, toL]
  simp [hne]
theorem text_size {n d : Int} (v : validB n d = true) : (textF n d).size ≤ 999 := by
  obtain ⟨b1, b2, b3⟩ := valid_bd v
  have i1 := itoa_len n (by omega) (by omega)
  have i2 := itoa_len d (by omega) (by omega)
  unfold textF
  rw [if_pos v]
  split
  · omega
  · rw [ByteArray.size_append, ByteArray.size_append]; have : slash.size = 1 := rfl; omega
end Go.Proofs.YtinbfdfgebiaeaaDoor
