/-
  head.Text, ref.HeadText by their contracts.
-/
import Derived.Test.YtkgmimmneeppgaaDoorWakeAll
import Derived.Test.YtkgmimmneeppgaaDoorWrtC
namespace Go.Proofs.YtkgmimmneeppgaaDoor
set_option maxRecDepth 100000
open Go.RowKit
set_option linter.unusedVariables false
/-- a head's bytes -/
def hdTxt (n : Int) (r : List UInt8) : List UInt8 × Int := if hdE n r = 0 then (numS n ++ r, 0) else ([], hdE n r)
theorem hdE_zero {n : Int} {r : List UInt8} (h : hdE n r = 0) : 0 ≤ n ∧ n ≤ 200 ∧ r.length = 32 := by
  unfold hdE at h
  split at h
  · cases h
  · rename_i h1
    split at h
    · rename_i h2; exact ⟨by omega, by omega, h2⟩
    · cases h

set_option maxHeartbeats 4000000 in
theorem rhtext_any (n : Int) (r : List UInt8) (w : World) (hr : r.length ≤ 1099511627776) :
    Calls Tryd.prog 38 #[.agg (headC n r)] w fun e w' => e = .returned (.tuple #[.string (bs (hdTxt n r).1), .int .i64 (hdTxt n r).2]) ∧ Gr w w' := by
  have HG := sec (fun w => rhgood_any n r w (by omega))
  have hg0 := (Gr.refl w).alloc (.cells (headC n r) 26)
  have hb := Blk.new w 26 (headC n r)
  have HN := sec (fun w => number_any n w)
  obtain ⟨wa, hwa⟩ : ∃ x, x = w.alloc (.cells (headC n r) 26) := ⟨_, rfl⟩
  obtain ⟨p, hp⟩ : ∃ p, p = w.heap.size := ⟨_, rfl⟩
  rw [← hwa] at hg0 hb
  rw [← hp] at hb
  have HB := sec hb
  have c0 : wa.cell? ⟨p, 0, none⟩ = some (.int .i64 n) := hb.cell 0
  have c1 : wa.cell? ⟨p, 1, none⟩ = some (.string (bs r)) := hb.cell 1
  clear hb
  unfold headC at HG hwa
  unfold headC
  by_cases hE : hdE n r = 0
  · have HR : Sec (hdTxt n r = (numS n ++ r, 0)) := sec (by unfold hdTxt; rw [if_pos hE])
    obtain ⟨h0, h1, h2⟩ := hdE_zero hE
    rw [HR.out]
    rw [hE] at HG
    have hnl : (numS n).length ≤ 9 := by rw [numS_in h0 (by omega)]; exact num_len9 (by omega)
    obtain ⟨N, hN⟩ : ∃ N, N = numS n := ⟨_, rfl⟩
    rw [← hN] at hnl HN
    rw [← hN]
    have hcat : ¬ 9223372036854775807 < N.length + r.length := by omega
    clear hE HR hN
    go_enter Tryd.func38, Tryd.ntmps38
    go_wp2_with (first
      | (rw [← hwa, ← hp]; clear hwa hp; go_wp2_with fail)
      | (go_at_call 63; refine Calls.mono (HG.out _) ?_; rintro e w1 ⟨rfl, g1⟩; have x0 : w1.cell? ⟨p, 0, none⟩ = some (.int .i64 n) := (HB.out.gr g1).cell 0; have x1 : w1.cell? ⟨p, 1, none⟩ = some (.string (bs r)) := (HB.out.gr g1).cell 1))
    have g1d : Gr w1 w1.drew := (Gr.refl _).drew
    have HSK : Sec (∀ w', Gr w1 w' → w'.cell? ⟨p, 0, none⟩ = some (.int .i64 n) ∧ w'.cell? ⟨p, 1, none⟩ = some (.string (bs r)) ∧ Gr w1 w') := sec (fun w' g => ⟨(HB.out.gr (g1.trans g)).cell 0, (HB.out.gr (g1.trans g)).cell 1, g⟩)
    go_region_with (go_at_call 48; (with_reducible refine Calls.mono (HN.out w1.drew) ?_); rintro e w2 ⟨rfl, g2'⟩; have g2 : Gr w1 w2 := Gr.trans g1d g2'; obtain ⟨y0, y1, _⟩ := HSK.out w2 g2)
    all_goals (go_wp2_with fail; go_ret2; exact ⟨rfl, hg0.trans (g1.trans g2)⟩)
  · have HR : Sec (hdTxt n r = ([], hdE n r)) := sec (by unfold hdTxt; rw [if_neg hE])
    rw [HR.out]
    obtain ⟨E, hEE⟩ : ∃ E, E = hdE n r := ⟨_, rfl⟩
    rw [← hEE] at HG hE
    rw [← hEE]
    have m0 : (E != 0) = true := by simpa using hE
    clear hEE HR
    go_enter Tryd.func38, Tryd.ntmps38
    go_wp2_with (first
      | (rw [← hwa, ← hp]; clear hwa hp; go_wp2_with fail)
      | (go_at_call 63; refine Calls.mono (HG.out _) ?_; rintro e w1 ⟨rfl, g1⟩))
    go_ret2
    exact ⟨rfl, hg0.trans g1⟩

set_option maxHeartbeats 4000000 in
theorem htext_any (n : Int) (r : List UInt8) (w : World) (hr : r.length ≤ 1099511627776) :
    Calls Tryd.prog 35 #[.agg (headC n r)] w fun e w' => e = .returned (.tuple #[.string (bs (hdTxt n r).1), .int .i64 (hdTxt n r).2]) ∧ Gr w w' := by
  have HG := sec (fun w => hgood_any n r w (by omega))
  have hg0 := (Gr.refl w).alloc (.cells (headC n r) 26)
  have hb := Blk.new w 26 (headC n r)
  obtain ⟨wa, hwa⟩ : ∃ x, x = w.alloc (.cells (headC n r) 26) := ⟨_, rfl⟩
  obtain ⟨p, hp⟩ : ∃ p, p = w.heap.size := ⟨_, rfl⟩
  rw [← hwa] at hg0 hb
  rw [← hp] at hb
  have HB := sec hb
  have c0 : wa.cell? ⟨p, 0, none⟩ = some (.int .i64 n) := hb.cell 0
  have c1 : wa.cell? ⟨p, 1, none⟩ = some (.string (bs r)) := hb.cell 1
  clear hb
  unfold headC at HG hwa
  unfold headC
  by_cases hE : hdE n r = 0
  · have HR : Sec (hdTxt n r = (numS n ++ r, 0)) := sec (by unfold hdTxt; rw [if_pos hE])
    obtain ⟨h0, h1, h2⟩ := hdE_zero hE
    rw [HR.out]
    rw [hE] at HG
    have hnl : (numS n).length ≤ 9 := by rw [numS_in h0 (by omega)]; exact num_len9 (by omega)
    have HNu : Sec (∀ B g w, WrAt w B g ([], 0) → Calls Tryd.prog 44 #[.pointer (some ⟨g, 0, none⟩), .int .i64 n] w fun e w' => e = .returned (.tuple #[]) ∧ WrAt w' B g (numS n, 0) ∧ Below B w w' ∧ KeepT g w w') := sec (fun B g w h => by
      have := wrNumber B g ([], 0) n w h (by simp)
      have e : wNum n ([], 0) = (numS n, 0) := by unfold wNum; rw [if_pos rfl, if_pos ⟨h0, by omega⟩]; rfl
      rwa [e] at this)
    have HBy : Sec (∀ B g w, WrAt w B g (numS n, 0) → Calls Tryd.prog 45 #[.pointer (some ⟨g, 0, none⟩), .string (bs r)] w fun e w' => e = .returned (.tuple #[]) ∧ WrAt w' B g (numS n ++ r, 0) ∧ Below B w w' ∧ KeepT g w w') := sec (fun B g w h => wrBytes B g (numS n, 0) r w h (by simp only; omega))
    have HDn : Sec (∀ B g w, WrAt w B g (numS n ++ r, 0) → Calls Tryd.prog 46 #[.pointer (some ⟨g, 0, none⟩)] w fun e w' => e = .returned (.tuple #[.string (bs (numS n ++ r)), .int .i64 0]) ∧ Gr w w') := sec (fun B g w h => wrDone B g (numS n ++ r, 0) w h)
    have HW0 : Sec (∀ w1 : World, WrAt (w1.alloc (.cells #[.slice none 0 0, .int .i64 0] 71)) w1.heap.size w1.heap.size ([], 0)) := sec (fun w1 => ⟨⟨none, 0, Blk.new w1 _ _, World.ownsRow_nil _ _ _ _⟩, Nat.le_refl _, by simp⟩)
    clear hE HR h2
    go_enter Tryd.func35, Tryd.ntmps35
    go_wp2_with (first
      | (rw [← hwa, ← hp]; clear hwa hp; go_wp2_with fail)
      | (go_at_call 61; refine Calls.mono (HG.out _) ?_; rintro e w1 ⟨rfl, g1⟩; have b1 := HB.out.gr g1; have x0 : (w1.alloc (.cells #[.slice none 0 0, .int .i64 0] 71)).cell? ⟨p, 0, none⟩ = some (.int .i64 n) := (b1.alloc _).cell 0; have x1 : (w1.alloc (.cells #[.slice none 0 0, .int .i64 0] 71)).cell? ⟨p, 1, none⟩ = some (.string (bs r)) := (b1.alloc _).cell 1)
      | (go_at_call 44; refine Calls.mono (HNu.out w1.heap.size w1.heap.size _ (HW0.out w1)) ?_; rintro e w2 ⟨rfl, d2, k2, _⟩; have b2 : Gr w1 w2 := Below.trans ((Gr.refl w1).alloc _) k2; have y0 : w2.cell? ⟨p, 0, none⟩ = some (.int .i64 n) := (b1.gr b2).cell 0; have y1 : w2.cell? ⟨p, 1, none⟩ = some (.string (bs r)) := (b1.gr b2).cell 1)
      | (go_at_call 45; refine Calls.mono (HBy.out _ _ _ d2) ?_; rintro e w3 ⟨rfl, d3, k3, _⟩; have b3 : Gr w1 w3 := Below.trans b2 k3)
      | (go_at_call 46; refine Calls.mono (HDn.out _ _ _ d3) ?_; rintro e w4 ⟨rfl, g4⟩))
    go_ret2
    exact ⟨rfl, hg0.trans (g1.trans (b3.trans g4))⟩
  · have HR : Sec (hdTxt n r = ([], hdE n r)) := sec (by unfold hdTxt; rw [if_neg hE])
    rw [HR.out]
    obtain ⟨E, hEE⟩ : ∃ E, E = hdE n r := ⟨_, rfl⟩
    rw [← hEE] at HG hE
    rw [← hEE]
    have m0 : (E != 0) = true := by simpa using hE
    clear hEE HR
    go_enter Tryd.func35, Tryd.ntmps35
    go_wp2_with (first
      | (rw [← hwa, ← hp]; clear hwa hp; go_wp2_with fail)
      | (go_at_call 61; refine Calls.mono (HG.out _) ?_; rintro e w1 ⟨rfl, g1⟩))
    go_ret2
    exact ⟨rfl, hg0.trans g1⟩
end Go.Proofs.YtkgmimmneeppgaaDoor
