/-
  Plain mathematics of applying a delta (P4.2), over a reader's states: no program in sight. No conditions.
-/
import Derived.Test.YtmgpllakpgjicaaDoorReader
namespace Go.Proofs.YtmgpllakpgjicaaDoor
def dfin (will : Nat) (out : List UInt8) : List UInt8 × Nat := if out.length = will then (out, 0) else ([], 2)
def deltaGo (base : List UInt8) (will : Nat) : Nat → St → List UInt8 → List UInt8 × Nat
  | 0, _, out => dfin will out
  | f + 1, q, out =>
    if q.1 = [] then dfin will out
    else if nxtN q % 2 = 0 then
      (if (aftB ((nxtN q / 2 : Nat) : Int) (aftN q)).2 ≠ 0 ∨ nxtN q / 2 = 0 ∨ will < out.length + (nxtB ((nxtN q / 2 : Nat) : Int) (aftN q)).length then ([], 2)
      else deltaGo base will f (aftB ((nxtN q / 2 : Nat) : Int) (aftN q)) (out ++ nxtB ((nxtN q / 2 : Nat) : Int) (aftN q)))
    else if (aftN (aftN q)).2 ≠ 0 then ([], 2)
    else if base.length < nxtN (aftN q) ∨ base.length - nxtN (aftN q) < nxtN q / 2 then ([], 3)
    else if nxtN q / 2 = 0 ∨ will < out.length + nxtN q / 2 then ([], 2)
    else deltaGo base will f (aftN (aftN q)) (out ++ sub base (nxtN (aftN q)) (nxtN (aftN q) + nxtN q / 2))
def applyR (base d : List UInt8) : List UInt8 × Nat :=
  if (aftN (aftN (d, 0))).2 ≠ 0 then ([], 2)
  else if nxtN (d, 0) ≠ base.length then ([], 11)
  else if 8192 < nxtN (aftN (d, 0)) then ([], 1)
  else deltaGo base (nxtN (aftN (d, 0))) (aftN (aftN (d, 0))).1.length (aftN (aftN (d, 0))) []

section
variable {base : List UInt8} {will f : Nat} {q : St} {out : List UInt8}
theorem deltaGo_nil (h : q.1 = []) : deltaGo base will f q out = dfin will out := by
  cases f with
  | zero => rfl
  | succ f => rw [deltaGo, if_pos h]
theorem deltaGo_cut (h : q.1 ≠ []) (h0 : nxtN q % 2 = 0) (h1 : (aftB ((nxtN q / 2 : Nat) : Int) (aftN q)).2 ≠ 0 ∨ nxtN q / 2 = 0 ∨ will < out.length + (nxtB ((nxtN q / 2 : Nat) : Int) (aftN q)).length) : deltaGo base will (f + 1) q out = ([], 2) := by
  rw [deltaGo, if_neg h, if_pos h0, if_pos h1]
theorem deltaGo_put (h : q.1 ≠ []) (h0 : nxtN q % 2 = 0) (h1 : ¬ ((aftB ((nxtN q / 2 : Nat) : Int) (aftN q)).2 ≠ 0 ∨ nxtN q / 2 = 0 ∨ will < out.length + (nxtB ((nxtN q / 2 : Nat) : Int) (aftN q)).length)) :
    deltaGo base will (f + 1) q out = deltaGo base will f (aftB ((nxtN q / 2 : Nat) : Int) (aftN q)) (out ++ nxtB ((nxtN q / 2 : Nat) : Int) (aftN q)) := by
  rw [deltaGo, if_neg h, if_pos h0, if_neg h1]
theorem deltaGo_bad (h : q.1 ≠ []) (h0 : ¬ nxtN q % 2 = 0) (h1 : (aftN (aftN q)).2 ≠ 0) : deltaGo base will (f + 1) q out = ([], 2) := by
  rw [deltaGo, if_neg h, if_neg h0, if_pos h1]
theorem deltaGo_rng (h : q.1 ≠ []) (h0 : ¬ nxtN q % 2 = 0) (h1 : (aftN (aftN q)).2 = 0) (h2 : base.length < nxtN (aftN q) ∨ base.length - nxtN (aftN q) < nxtN q / 2) : deltaGo base will (f + 1) q out = ([], 3) := by
  rw [deltaGo, if_neg h, if_neg h0, if_neg (by simpa using h1), if_pos h2]
theorem deltaGo_big (h : q.1 ≠ []) (h0 : ¬ nxtN q % 2 = 0) (h1 : (aftN (aftN q)).2 = 0) (h2 : ¬ (base.length < nxtN (aftN q) ∨ base.length - nxtN (aftN q) < nxtN q / 2)) (h3 : nxtN q / 2 = 0 ∨ will < out.length + nxtN q / 2) : deltaGo base will (f + 1) q out = ([], 2) := by
  rw [deltaGo, if_neg h, if_neg h0, if_neg (by simpa using h1), if_neg h2, if_pos h3]
theorem deltaGo_copy (h : q.1 ≠ []) (h0 : ¬ nxtN q % 2 = 0) (h1 : (aftN (aftN q)).2 = 0) (h2 : ¬ (base.length < nxtN (aftN q) ∨ base.length - nxtN (aftN q) < nxtN q / 2)) (h3 : ¬ (nxtN q / 2 = 0 ∨ will < out.length + nxtN q / 2)) :
    deltaGo base will (f + 1) q out = deltaGo base will f (aftN (aftN q)) (out ++ sub base (nxtN (aftN q)) (nxtN (aftN q) + nxtN q / 2)) := by
  rw [deltaGo, if_neg h, if_neg h0, if_neg (by simpa using h1), if_neg h2, if_neg h3]
end
theorem gK_pos {l : List UInt8} (h : gE l = 0) : 0 < gK l := by
  rcases hg : get l with _ | ⟨n, k⟩
  · rw [(g_none hg).2.2] at h; omega
  · rw [(g_some hg).2.1]; exact (get_le hg).2.1
theorem aftN_len (q : St) : (aftN q).1.length ≤ q.1.length := by
  unfold aftN; split
  · simp
  · exact Nat.le_refl _
theorem aftN_lt {q : St} (h : q.2 = 0) (h1 : q.1 ≠ []) (h2 : (aftN q).2 = 0) : (aftN q).1.length < q.1.length := by
  unfold aftN at h2 ⊢
  rw [if_pos h] at h2 ⊢
  have := gK_pos h2
  have : 0 < q.1.length := List.length_pos_iff.2 h1
  simp; omega
theorem nxtN_lt (q : St) : nxtN q < 4611686018427387904 := by
  unfold nxtN; split
  · exact gN_lt _
  · omega
theorem aftB_len (n : Int) (q : St) : (aftB n q).1.length ≤ q.1.length := by
  unfold aftB; split
  · split
    · simp
    · exact Nat.le_refl _
  · exact Nat.le_refl _
theorem aftB_ok {n : Nat} {q : St} (h : (aftB (n : Int) q).2 = 0) : q.2 = 0 ∧ n ≤ q.1.length ∧ nxtB (n : Int) q = q.1.take n ∧ (nxtB (n : Int) q).length = n ∧ aftB (n : Int) q = (q.1.drop n, 0) := by
  unfold aftB at h
  by_cases h0 : q.2 = 0
  · rw [if_pos h0] at h
    by_cases h1 : 0 ≤ (n : Int) ∧ (n : Int) ≤ q.1.length
    · have hn : n ≤ q.1.length := by omega
      refine ⟨h0, hn, by simp [nxtB, h0, hn], by simp [nxtB, h0, hn], by simp [aftB, h0, hn]⟩
    · rw [if_neg h1] at h; simp at h
  · rw [if_neg h0] at h; exact absurd h h0
theorem nxtB_len (n : Int) (q : St) : (nxtB n q).length ≤ q.1.length := by
  unfold nxtB; split
  · simp; omega
  · simp
theorem aftN_bad {q : St} (h : q.2 ≠ 0) : (aftN q).2 ≠ 0 ∧ nxtN q = 0 := by simp [aftN, nxtN, h]
theorem deltaGo_err (base : List UInt8) (will : Nat) : ∀ (f : Nat) (q : St) (out : List UInt8), will ≤ 8192 → (deltaGo base will f q out).1.length ≤ 8192 ∧ (deltaGo base will f q out).2 ≤ 3 := by
  have hd : ∀ out : List UInt8, will ≤ 8192 → (dfin will out).1.length ≤ 8192 ∧ (dfin will out).2 ≤ 3 := by
    intro out hw; unfold dfin; split
    · exact ⟨by simp only; omega, by simp⟩
    · simp
  intro f
  induction f with
  | zero => intro q out hw; exact hd out hw
  | succ f ih =>
    intro q out hw
    rw [deltaGo]
    split
    · exact hd out hw
    · split
      · split
        · simp
        · exact ih _ _ hw
      · split
        · simp
        · split
          · simp
          · split
            · simp
            · exact ih _ _ hw
theorem applyR_err (base d : List UInt8) : (applyR base d).1.length ≤ 8192 ∧ (applyR base d).2 ≤ 11 := by
  unfold applyR
  split
  · simp
  · split
    · simp
    · split
      · simp
      · rename_i h
        have := deltaGo_err base (nxtN (aftN (d, 0))) (aftN (aftN (d, 0))).1.length (aftN (aftN (d, 0))) [] (by omega)
        omega
end Go.Proofs.YtmgpllakpgjicaaDoor
