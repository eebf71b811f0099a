/-
  What the walk of cartularylaw.NodeMarks leans on, part 2 of 8: contracts and plain laws. No conditions.
-/
import Derived.Test.YtbhpglhmnpcnkaaDoorRdr
import Derived.Test.YtbhpglhmnpcnkaaDoorNodesD
import Derived.Test.YtbhpglhmnpcnkaaDoorDiskRead
import Derived.Test.YtbhpglhmnpcnkaaDoorSumS
import Derived.Test.YtbhpglhmnpcnkaaDoorRSumS
import Derived.Deep.RegionHeld3
import Derived.Test.YtbhpglhmnpcnkaaDoorNodes
import Derived.Test.YtbhpglhmnpcnkaaDoorDiskRCrash
import Derived.Deep.RegionWith
import Derived.Test.YtbhpglhmnpcnkaaDoorNodeMarksP1
namespace Go.Proofs.YtbhpglhmnpcnkaaDoor
open Go.RowKit
set_option linter.unusedVariables false

/-- what is wrong with a head -/
def hdE (n : Int) (r : List UInt8) : Int := if n < 0 ∨ 200 < n then 3 else if r.length = 32 then 0 else 2
/-- the head of bytes: size, root, error -/
def hdRd (b : List UInt8) : Int × List UInt8 × Int :=
  if gE b = 0 ∧ b.length - gK b = 32 then
    (if hdE (gN b : Int) (b.drop (gK b)) = 0 then ((gN b : Int), b.drop (gK b), 0) else (0, [], hdE (gN b : Int) (b.drop (gK b))))
  else (0, [], 2)
theorem hdE_or (n : Int) (r : List UInt8) : hdE n r = 0 ∨ hdE n r = 2 ∨ hdE n r = 3 := by
  unfold hdE
  split
  · simp
  · split <;> simp
theorem rd_yes {b : List UInt8} (h : gE b = 0 ∧ b.length - gK b = 32) : nxtN (b, 0) = gN b ∧ nxtB 32 (aftN (b, 0)) = b.drop (gK b) ∧ aftB 32 (aftN (b, 0)) = ([], 0) := by
  obtain ⟨h1, h2⟩ := h
  have hl : (b.drop (gK b)).length = 32 := by rw [List.length_drop]; exact h2
  have e : aftN (b, 0) = (b.drop (gK b), 0) := by unfold aftN; rw [if_pos rfl, h1]
  refine ⟨by unfold nxtN; rw [if_pos rfl], ?_, ?_⟩
  · rw [e]; unfold nxtB
    rw [if_pos ⟨rfl, by omega, by simp only; rw [hl]; omega⟩]
    exact List.take_of_length_le (by simp only; rw [hl]; decide)
  · rw [e]; unfold aftB
    rw [if_pos rfl, if_pos ⟨by omega, by simp only; rw [hl]; omega⟩]
    simp only [Prod.mk.injEq, and_true]
    exact List.drop_eq_nil_of_le (by rw [hl]; decide)
theorem rd_no {b : List UInt8} (h : ¬ (gE b = 0 ∧ b.length - gK b = 32)) : (aftB 32 (aftN (b, 0))).2 ≠ 0 ∨ 0 < (aftB 32 (aftN (b, 0))).1.length := by
  have e : aftN (b, 0) = (b.drop (gK b), gE b) := by unfold aftN; rw [if_pos rfl]
  rw [e]
  unfold aftB
  by_cases h1 : gE b = 0
  · have h2 : b.length - gK b ≠ 32 := fun h2 => h ⟨h1, h2⟩
    rw [if_pos h1]
    split
    · rename_i h3
      right
      simp only [List.length_drop] at h3 ⊢
      have : (32 : Int).toNat = 32 := rfl
      rw [this]
      omega
    · left; simp
  · rw [if_neg h1]
    exact .inl h1
end Go.Proofs.YtbhpglhmnpcnkaaDoor

namespace Go.Proofs.YtbhpglhmnpcnkaaDoor
open Go.RowKit
set_option linter.unusedVariables false

set_option maxRecDepth 100000 in
set_option maxHeartbeats 2000000 in
theorem hgood_any (n : Int) (r : List UInt8) (w : World) (hr : r.length ≤ 1152921504606846976) :
    Calls Tryd.prog 19 #[.agg (headC n r)] w fun e w' => e = .returned (.int .i64 (hdE n r)) ∧ Gr w w' := by
  unfold headC
  by_cases h0 : n < 0
  · have HE : Sec (hdE n r = 3) := sec (by unfold hdE; rw [if_pos (.inl h0)])
    rw [HE.out]
    go_enter Tryd.func19, Tryd.ntmps19
    go_wp2_with fail
    go_ret
    exact ⟨rfl, (Gr.refl w).alloc _⟩
  · by_cases h1 : 200 < n
    · have HE : Sec (hdE n r = 3) := sec (by unfold hdE; rw [if_pos (.inr h1)])
      rw [HE.out]
      go_enter Tryd.func19, Tryd.ntmps19
      go_wp2_with fail
      go_ret
      exact ⟨rfl, (Gr.refl w).alloc _⟩
    · by_cases h2 : r.length = 32
      · have HE : Sec (hdE n r = 0) := sec (by unfold hdE; rw [if_neg (by omega), if_pos h2])
        rw [HE.out]
        have h3 : ¬ ¬ (r.length : Int) = 32 := by omega
        go_enter Tryd.func19, Tryd.ntmps19
        go_wp2_with fail
        go_ret
        exact ⟨rfl, (Gr.refl w).alloc _⟩
      · have HE : Sec (hdE n r = 2) := sec (by unfold hdE; rw [if_neg (by omega), if_neg h2])
        rw [HE.out]
        have h3 : ¬ (r.length : Int) = 32 := by omega
        go_enter Tryd.func19, Tryd.ntmps19
        go_wp2_with fail
        go_ret
        exact ⟨rfl, (Gr.refl w).alloc _⟩
set_option maxRecDepth 100000 in
set_option maxHeartbeats 2000000 in
theorem rhgood_any (n : Int) (r : List UInt8) (w : World) (hr : r.length ≤ 1152921504606846976) :
    Calls Tryd.prog 20 #[.agg (headC n r)] w fun e w' => e = .returned (.int .i64 (hdE n r)) ∧ Gr w w' := by
  unfold headC
  by_cases h0 : n < 0
  · have HE : Sec (hdE n r = 3) := sec (by unfold hdE; rw [if_pos (.inl h0)])
    rw [HE.out]
    go_enter Tryd.func20, Tryd.ntmps20
    go_wp2_with fail
    go_ret
    exact ⟨rfl, (Gr.refl w).alloc _⟩
  · by_cases h1 : 200 < n
    · have HE : Sec (hdE n r = 3) := sec (by unfold hdE; rw [if_pos (.inr h1)])
      rw [HE.out]
      go_enter Tryd.func20, Tryd.ntmps20
      go_wp2_with fail
      go_ret
      exact ⟨rfl, (Gr.refl w).alloc _⟩
    · by_cases h2 : r.length = 32
      · have HE : Sec (hdE n r = 0) := sec (by unfold hdE; rw [if_neg (by omega), if_pos h2])
        rw [HE.out]
        have h3 : ¬ ¬ (r.length : Int) = 32 := by omega
        go_enter Tryd.func20, Tryd.ntmps20
        go_wp2_with fail
        go_ret
        exact ⟨rfl, (Gr.refl w).alloc _⟩
      · have HE : Sec (hdE n r = 2) := sec (by unfold hdE; rw [if_neg (by omega), if_neg h2])
        rw [HE.out]
        have h3 : ¬ (r.length : Int) = 32 := by omega
        go_enter Tryd.func20, Tryd.ntmps20
        go_wp2_with fail
        go_ret
        exact ⟨rfl, (Gr.refl w).alloc _⟩
end Go.Proofs.YtbhpglhmnpcnkaaDoor

namespace Go.Proofs.YtbhpglhmnpcnkaaDoor
open Go.RowKit
set_option linter.unusedVariables false

theorem headC_le (r : List UInt8) (h : r.length = 32) : r.length ≤ 1152921504606846976 := by omega

set_option maxRecDepth 100000 in
set_option maxHeartbeats 4000000 in
theorem hread_any (b : List UInt8) (w : World) (hb : b.length ≤ 1099511627776) :
    Calls Tryd.prog 17 #[.string (bs b)] w fun e w' => e = .returned (.tuple #[.agg (headC (hdRd b).1 (hdRd b).2.1), .int .i64 (hdRd b).2.2]) ∧ Gr w w' := by
  have HRd : Sec (∀ w, Calls Tryd.prog 41 #[.string (bs b)] w fun e w' => e = .returned (.pointer (some ⟨w.heap.size, 0, none⟩)) ∧ RdAt 95 w' w.heap.size (b, 0) ∧ Gr w w') := sec (fun w => rdRead b w (by omega))
  obtain ⟨n1, hn1⟩ : ∃ n, n = nxtN (b, 0) := ⟨_, rfl⟩
  obtain ⟨q1, hq1⟩ : ∃ q, q = aftN (b, 0) := ⟨_, rfl⟩
  obtain ⟨r1, hr1⟩ : ∃ r, r = nxtB 32 q1 := ⟨_, rfl⟩
  obtain ⟨q2, hq2⟩ : ∃ q, q = aftB 32 q1 := ⟨_, rfl⟩
  have HNu : Sec (∀ g w, RdAt 95 w g (b, 0) → Calls Tryd.prog 42 #[.pointer (some ⟨g, 0, none⟩)] w fun e w' => e = .returned (.int .i64 (n1 : Int)) ∧ RdAt 95 w' g q1 ∧ w.grownBy w' (some g)) := sec (fun g w h => by rw [hn1, hq1]; exact rdNumber g (b, 0) w h)
  have HBy : Sec (∀ g w, RdAt 95 w g q1 → Calls Tryd.prog 43 #[.pointer (some ⟨g, 0, none⟩), .int .i64 32] w fun e w' => e = .returned (.string (bs r1)) ∧ RdAt 95 w' g q2 ∧ w.grownBy w' (some g)) := sec (fun g w h => by rw [hr1, hq2]; exact rdBytes g q1 32 w h (by omega))
  have HBad : Sec (∀ g w, RdAt 95 w g q2 → Calls Tryd.prog 44 #[.pointer (some ⟨g, 0, none⟩)] w fun e w' => e = .returned (.int .i64 (q2.2 : Int)) ∧ w = w') := sec (fun g w h => rdBad g q2 w h)
  have HLe : Sec (∀ g w, RdAt 95 w g q2 → Calls Tryd.prog 45 #[.pointer (some ⟨g, 0, none⟩)] w fun e w' => e = .returned (.int .i64 (q2.1.length : Int)) ∧ w = w') := sec (fun g w h => rdLeft g q2 w h)
  have hrl : r1.length ≤ b.length ∧ r1.length ≤ 32 := by
    rw [hr1]; unfold nxtB
    split
    · rename_i h
      have : (32 : Int).toNat = 32 := rfl
      rw [List.length_take, this]
      have hq : q1.1.length ≤ b.length := by rw [hq1]; unfold aftN; simp
      omega
    · simp
  have HG : Sec (∀ w, Calls Tryd.prog 19 #[.agg (headC (n1 : Int) r1)] w fun e w' => e = .returned (.int .i64 (hdE (n1 : Int) r1)) ∧ Gr w w') := sec (fun w => hgood_any (n1 : Int) r1 w (by omega))
  have HRES : Sec ((q2.2 = 0 ∧ q2.1.length = 0 ∧ hdRd b = (if hdE (n1 : Int) r1 = 0 then ((n1 : Int), r1, 0) else (0, [], hdE (n1 : Int) r1))) ∨ ((q2.2 ≠ 0 ∨ 0 < q2.1.length) ∧ hdRd b = (0, [], 2))) := sec (by
    by_cases h : gE b = 0 ∧ b.length - gK b = 32
    · obtain ⟨e1, e2, e3⟩ := rd_yes h
      left
      rw [hq2, hq1, e3, hn1, hr1, hq1, e1, e2]
      refine ⟨rfl, rfl, ?_⟩
      unfold hdRd
      rw [if_pos h]
    · right
      rw [hq2, hq1]
      exact ⟨rd_no h, by unfold hdRd; rw [if_neg h]⟩)
  clear hn1 hq1 hr1 hq2 hrl
  unfold headC at HG
  unfold headC
  have hZ := Blk.new w 26 #[.int .i64 0, .string (bs [])]
  have hgZ := (Gr.refl w).alloc (.cells #[.int .i64 0, .string (bs [])] 26)
  have hszZ : (w.alloc (.cells #[.int .i64 0, .string (bs [])] 26)).heap.size = w.heap.size + 1 := by simp
  obtain ⟨wa, hwa⟩ : ∃ x, x = w.alloc (.cells #[.int .i64 0, .string (bs [])] 26) := ⟨_, rfl⟩
  obtain ⟨p, hp⟩ : ∃ p, p = w.heap.size := ⟨_, rfl⟩
  rw [← hwa] at hZ hgZ hszZ
  rw [← hp] at hZ hszZ
  have HZ := sec hZ
  have HGZ := sec hgZ
  have hwp : w.heap.size ≤ p := by omega
  obtain ⟨g, hg⟩ : ∃ g, g = wa.heap.size := ⟨_, rfl⟩
  have hgp : g = p + 1 := by omega
  have HRd2 : Sec (Calls Tryd.prog 41 #[.string (bs b)] wa fun e w' => e = .returned (.pointer (some ⟨g, 0, none⟩)) ∧ RdAt 95 w' g (b, 0) ∧ Gr wa w') := sec (by rw [hg]; exact HRd.out wa)
  have HGA := sec hg
  clear hZ hgZ hszZ HRd hg hb
  have HMID : Sec (∀ w1 w2 w3, Gr wa w1 → w1.grownBy w2 (some g) → w2.grownBy w3 (some g) → Blk w3 p 26 #[.int .i64 0, .string (bs [])] ∧ Gr w w3) := sec (fun w1 w2 w3 k1 k2 k3 =>
    ⟨((HZ.out.gr k1).only k2 (by omega)).only k3 (by omega), ((HGZ.out.trans k1).only k2 (by omega)).only k3 (by omega)⟩)
  clear hgp
  rcases HRES.out with ⟨h1, h2, hR⟩ | ⟨h1, hR⟩
  · by_cases hE : hdE (n1 : Int) r1 = 0
    · rw [if_pos hE] at hR
      have HR := sec hR
      rw [hE] at HG
      clear HRES hE hR
      go_enter Tryd.func17, Tryd.ntmps17
      go_wp2_with (first
        | (rw [← hwa, ← hp]; clear hwa hp; go_wp2_with fail)
        | (go_at_call 41; refine Calls.mono HRd2.out ?_; rintro e w1 ⟨rfl, d1, g1⟩)
        | (go_at_call 42; refine Calls.mono (HNu.out g w1 d1) ?_; rintro e w2 ⟨rfl, d2, g2⟩)
        | (go_at_call 43; refine Calls.mono (HBy.out g w2 d2) ?_; rintro e w3 ⟨rfl, d3, g3⟩; obtain ⟨hm3, hw3⟩ := HMID.out w1 w2 w3 g1 g2 g3; have d4 := RdAt.gr d3 ((Gr.refl w3).alloc (.cells #[.int .i64 (n1 : Int), .string (bs r1)] 26)); have hm4 := hm3.alloc (.cells #[.int .i64 (n1 : Int), .string (bs r1)] 26); have hh4 := Blk.new w3 26 #[.int .i64 (n1 : Int), .string (bs r1)]; have hw4 := hw3.alloc (.cells #[.int .i64 (n1 : Int), .string (bs r1)] 26))
        | (go_at_call 44; refine Calls.mono (HBad.out g _ d4) ?_; rw [h1]; rintro e w5 ⟨rfl, rfl⟩)
        | (go_at_call 45; refine Calls.mono (HLe.out g _ d4) ?_; rw [h2]; rintro e w6 ⟨rfl, rfl⟩)
        | (go_at_call 19; refine Calls.mono (HG.out _) ?_; rintro e w7 ⟨rfl, g7⟩; have hh7 := hh4.gr g7; have hm7 := hm4.gr g7; have x0 : w7.cell? ⟨w3.heap.size, 0, none⟩ = some (.int .i64 (n1 : Int)) := hh7.cell 0; have x1 : w7.cell? ⟨w3.heap.size, 1, none⟩ = some (.string (bs r1)) := hh7.cell 1; have y0 : w7.cell? ⟨p, 0, none⟩ = some (.int .i64 0) := hm7.cell 0; have y1 : w7.cell? ⟨p, 1, none⟩ = some (.string (bs [])) := hm7.cell 1; have z0 : w7.frozen? ⟨p, 0, none⟩ = false := hm7.frozen 0; have z1 : w7.frozen? ⟨p, 1, none⟩ = false := hm7.frozen 1))
      refine bodyPost_ret (results_blk_tmp rfl _ rfl ((hm7.set_ 0 (.int .i64 (n1 : Int))).set_ 1 (.string (bs r1))) A.head) rfl ?_
      rw [HR.out]
      exact ⟨rfl, ((hw4.trans g7).setCell (p := ⟨p, 0, none⟩) hwp _).setCell (p := ⟨p, 1, none⟩) hwp _⟩
    · rw [if_neg hE] at hR
      have HR := sec hR
      obtain ⟨E, hEE⟩ : ∃ E, E = hdE (n1 : Int) r1 := ⟨_, rfl⟩
      rw [← hEE] at HG HR hE
      clear HRES hEE hR
      go_enter Tryd.func17, Tryd.ntmps17
      go_wp2_with (first
        | (rw [← hwa, ← hp]; clear hwa hp; go_wp2_with fail)
        | (go_at_call 41; refine Calls.mono HRd2.out ?_; rintro e w1 ⟨rfl, d1, g1⟩)
        | (go_at_call 42; refine Calls.mono (HNu.out g w1 d1) ?_; rintro e w2 ⟨rfl, d2, g2⟩)
        | (go_at_call 43; refine Calls.mono (HBy.out g w2 d2) ?_; rintro e w3 ⟨rfl, d3, g3⟩; obtain ⟨hm3, hw3⟩ := HMID.out w1 w2 w3 g1 g2 g3; have d4 := RdAt.gr d3 ((Gr.refl w3).alloc (.cells #[.int .i64 (n1 : Int), .string (bs r1)] 26)); have hm4 := hm3.alloc (.cells #[.int .i64 (n1 : Int), .string (bs r1)] 26); have hh4 := Blk.new w3 26 #[.int .i64 (n1 : Int), .string (bs r1)]; have hw4 := hw3.alloc (.cells #[.int .i64 (n1 : Int), .string (bs r1)] 26); have y04 : (w3.alloc (.cells #[.int .i64 (n1 : Int), .string (bs r1)] 26)).cell? ⟨p, 0, none⟩ = some (.int .i64 0) := hm4.cell 0; have y14 : (w3.alloc (.cells #[.int .i64 (n1 : Int), .string (bs r1)] 26)).cell? ⟨p, 1, none⟩ = some (.string (bs [])) := hm4.cell 1; have z04 : (w3.alloc (.cells #[.int .i64 (n1 : Int), .string (bs r1)] 26)).frozen? ⟨p, 0, none⟩ = false := hm4.frozen 0; have z14 : (w3.alloc (.cells #[.int .i64 (n1 : Int), .string (bs r1)] 26)).frozen? ⟨p, 1, none⟩ = false := hm4.frozen 1)
        | (go_at_call 44; refine Calls.mono (HBad.out g _ d4) ?_; rw [h1]; rintro e w5 ⟨rfl, rfl⟩)
        | (go_at_call 45; refine Calls.mono (HLe.out g _ d4) ?_; rw [h2]; rintro e w6 ⟨rfl, rfl⟩)
        | (go_at_call 19; refine Calls.mono (HG.out _) ?_; rintro e w7 ⟨rfl, g7⟩; have hm7 := hm4.gr g7; have y0 : w7.cell? ⟨p, 0, none⟩ = some (.int .i64 0) := hm7.cell 0; have y1 : w7.cell? ⟨p, 1, none⟩ = some (.string (bs [])) := hm7.cell 1; have z0 : w7.frozen? ⟨p, 0, none⟩ = false := hm7.frozen 0; have z1 : w7.frozen? ⟨p, 1, none⟩ = false := hm7.frozen 1))
      refine bodyPost_ret (results_blk_tmp rfl _ rfl ((hm7.set_ 0 (.int .i64 0)).set_ 1 (.string (bs []))) A.head) rfl ?_
      rw [HR.out]
      exact ⟨rfl, ((hw4.trans g7).setCell (p := ⟨p, 0, none⟩) hwp _).setCell (p := ⟨p, 1, none⟩) hwp _⟩
  · have HR := sec hR
    by_cases hq0 : q2.2 = 0
    · have h2 : 0 < q2.1.length := by
        rcases h1 with h1 | h1
        · exact absurd hq0 h1
        · exact h1
      have h2' : (0 : Int) < (q2.1.length : Int) := by omega
      clear HRES hR h1
      go_enter Tryd.func17, Tryd.ntmps17
      go_wp2_with (first
        | (rw [← hwa, ← hp]; clear hwa hp; go_wp2_with fail)
        | (go_at_call 41; refine Calls.mono HRd2.out ?_; rintro e w1 ⟨rfl, d1, g1⟩)
        | (go_at_call 42; refine Calls.mono (HNu.out g w1 d1) ?_; rintro e w2 ⟨rfl, d2, g2⟩)
        | (go_at_call 43; refine Calls.mono (HBy.out g w2 d2) ?_; rintro e w3 ⟨rfl, d3, g3⟩; obtain ⟨hm3, hw3⟩ := HMID.out w1 w2 w3 g1 g2 g3; have d4 := RdAt.gr d3 ((Gr.refl w3).alloc (.cells #[.int .i64 (n1 : Int), .string (bs r1)] 26)); have hm4 := hm3.alloc (.cells #[.int .i64 (n1 : Int), .string (bs r1)] 26); have hh4 := Blk.new w3 26 #[.int .i64 (n1 : Int), .string (bs r1)]; have hw4 := hw3.alloc (.cells #[.int .i64 (n1 : Int), .string (bs r1)] 26); have y04 : (w3.alloc (.cells #[.int .i64 (n1 : Int), .string (bs r1)] 26)).cell? ⟨p, 0, none⟩ = some (.int .i64 0) := hm4.cell 0; have y14 : (w3.alloc (.cells #[.int .i64 (n1 : Int), .string (bs r1)] 26)).cell? ⟨p, 1, none⟩ = some (.string (bs [])) := hm4.cell 1; have z04 : (w3.alloc (.cells #[.int .i64 (n1 : Int), .string (bs r1)] 26)).frozen? ⟨p, 0, none⟩ = false := hm4.frozen 0; have z14 : (w3.alloc (.cells #[.int .i64 (n1 : Int), .string (bs r1)] 26)).frozen? ⟨p, 1, none⟩ = false := hm4.frozen 1)
        | (go_at_call 44; refine Calls.mono (HBad.out g _ d4) ?_; rw [hq0]; rintro e w5 ⟨rfl, rfl⟩)
        | (go_at_call 45; refine Calls.mono (HLe.out g _ d4) ?_; rintro e w6 ⟨rfl, rfl⟩))
      refine bodyPost_ret (results_blk_tmp rfl _ rfl ((hm4.set_ 0 (.int .i64 0)).set_ 1 (.string (bs []))) A.head) rfl ?_
      rw [HR.out]
      exact ⟨rfl, (hw4.setCell (p := ⟨p, 0, none⟩) hwp _).setCell (p := ⟨p, 1, none⟩) hwp _⟩
    · have h3 : ¬ (q2.2 : Int) = 0 := by omega
      clear HRES hR h1
      go_enter Tryd.func17, Tryd.ntmps17
      go_wp2_with (first
        | (rw [← hwa, ← hp]; clear hwa hp; go_wp2_with fail)
        | (go_at_call 41; refine Calls.mono HRd2.out ?_; rintro e w1 ⟨rfl, d1, g1⟩)
        | (go_at_call 42; refine Calls.mono (HNu.out g w1 d1) ?_; rintro e w2 ⟨rfl, d2, g2⟩)
        | (go_at_call 43; refine Calls.mono (HBy.out g w2 d2) ?_; rintro e w3 ⟨rfl, d3, g3⟩; obtain ⟨hm3, hw3⟩ := HMID.out w1 w2 w3 g1 g2 g3; have d4 := RdAt.gr d3 ((Gr.refl w3).alloc (.cells #[.int .i64 (n1 : Int), .string (bs r1)] 26)); have hm4 := hm3.alloc (.cells #[.int .i64 (n1 : Int), .string (bs r1)] 26); have hh4 := Blk.new w3 26 #[.int .i64 (n1 : Int), .string (bs r1)]; have hw4 := hw3.alloc (.cells #[.int .i64 (n1 : Int), .string (bs r1)] 26); have y04 : (w3.alloc (.cells #[.int .i64 (n1 : Int), .string (bs r1)] 26)).cell? ⟨p, 0, none⟩ = some (.int .i64 0) := hm4.cell 0; have y14 : (w3.alloc (.cells #[.int .i64 (n1 : Int), .string (bs r1)] 26)).cell? ⟨p, 1, none⟩ = some (.string (bs [])) := hm4.cell 1; have z04 : (w3.alloc (.cells #[.int .i64 (n1 : Int), .string (bs r1)] 26)).frozen? ⟨p, 0, none⟩ = false := hm4.frozen 0; have z14 : (w3.alloc (.cells #[.int .i64 (n1 : Int), .string (bs r1)] 26)).frozen? ⟨p, 1, none⟩ = false := hm4.frozen 1)
        | (go_at_call 44; refine Calls.mono (HBad.out g _ d4) ?_; rintro e w5 ⟨rfl, rfl⟩))
      refine bodyPost_ret (results_blk_tmp rfl _ rfl ((hm4.set_ 0 (.int .i64 0)).set_ 1 (.string (bs []))) A.head) rfl ?_
      rw [HR.out]
      exact ⟨rfl, (hw4.setCell (p := ⟨p, 0, none⟩) hwp _).setCell (p := ⟨p, 1, none⟩) hwp _⟩

set_option maxRecDepth 100000 in
set_option maxHeartbeats 4000000 in
theorem rhread_any (b : List UInt8) (w : World) (hb : b.length ≤ 1099511627776) :
    Calls Tryd.prog 18 #[.string (bs b)] w fun e w' => e = .returned (.tuple #[.agg (headC (hdRd b).1 (hdRd b).2.1), .int .i64 (hdRd b).2.2]) ∧ Gr w w' := by
  have hkl := gK_le b
  obtain ⟨n1, hn1⟩ : ∃ n, n = gN b := ⟨_, rfl⟩
  obtain ⟨k1, hk1⟩ : ∃ n, n = gK b := ⟨_, rfl⟩
  obtain ⟨e1, he1⟩ : ∃ n, n = gE b := ⟨_, rfl⟩
  rw [← hk1] at hkl
  have HGet : Sec (∀ w, Calls Tryd.prog 46 #[.string (bs b)] w fun e w' => e = .returned (.tuple #[.int .i64 (n1 : Int), .int .i64 (k1 : Int), .int .i64 (e1 : Int)]) ∧ Gr w w') := sec (fun w => by rw [hn1, hk1, he1]; exact rget_any b w (by omega))
  have HRES : Sec ((e1 = 0 ∧ b.length - k1 = 32 ∧ hdRd b = (if hdE (n1 : Int) (b.drop k1) = 0 then ((n1 : Int), b.drop k1, 0) else (0, [], hdE (n1 : Int) (b.drop k1)))) ∨ (¬ (e1 = 0 ∧ b.length - k1 = 32) ∧ hdRd b = (0, [], 2))) := sec (by
    rw [he1, hk1, hn1]
    by_cases h : gE b = 0 ∧ b.length - gK b = 32
    · left; exact ⟨h.1, h.2, by unfold hdRd; rw [if_pos h]⟩
    · right; exact ⟨h, by unfold hdRd; rw [if_neg h]⟩)
  have HG : Sec (∀ w, Calls Tryd.prog 20 #[.agg (headC (n1 : Int) (b.drop k1))] w fun e w' => e = .returned (.int .i64 (hdE (n1 : Int) (b.drop k1))) ∧ Gr w w') := sec (fun w => rhgood_any (n1 : Int) (b.drop k1) w (by rw [List.length_drop]; omega))
  clear hn1 hk1 he1
  unfold headC at HG
  unfold headC
  have hZ := Blk.new w 26 #[.int .i64 0, .string (bs [])]
  have hgZ := (Gr.refl w).alloc (.cells #[.int .i64 0, .string (bs [])] 26)
  obtain ⟨wa, hwa⟩ : ∃ x, x = w.alloc (.cells #[.int .i64 0, .string (bs [])] 26) := ⟨_, rfl⟩
  obtain ⟨p, hp⟩ : ∃ p, p = w.heap.size := ⟨_, rfl⟩
  rw [← hwa] at hZ hgZ
  rw [← hp] at hZ
  have HZ := sec hZ
  have HGZ := sec hgZ
  have hwp : w.heap.size ≤ p := by omega
  have hki : (k1 : Int) ≤ (b.length : Int) := by omega
  clear hZ hgZ
  rcases HRES.out with ⟨h1, h2, hR⟩ | ⟨h1, hR⟩
  · subst h1
    have h32 : (b.length : Int) - (k1 : Int) = 32 := by omega
    by_cases hE : hdE (n1 : Int) (b.drop k1) = 0
    · rw [if_pos hE] at hR
      have HR := sec hR
      rw [hE] at HG
      clear HRES hE hR
      go_enter Tryd.func18, Tryd.ntmps18
      go_wp2_with (first
        | (rw [← hwa, ← hp]; clear hwa hp; go_wp2_with fail)
        | (go_at_call 46; refine Calls.mono (HGet.out _) ?_; rintro e w1 ⟨rfl, g1⟩; have hm4 := (HZ.out.gr g1).alloc (.cells #[.int .i64 (n1 : Int), .string (bs (b.drop k1))] 26); have hh4 := Blk.new w1 26 #[.int .i64 (n1 : Int), .string (bs (b.drop k1))]; have hw4 := (HGZ.out.trans g1).alloc (.cells #[.int .i64 (n1 : Int), .string (bs (b.drop k1))] 26))
        | (go_at_call 20; refine Calls.mono (HG.out _) ?_; rintro e w7 ⟨rfl, g7⟩; have hh7 := hh4.gr g7; have hm7 := hm4.gr g7; have x0 : w7.cell? ⟨w1.heap.size, 0, none⟩ = some (.int .i64 (n1 : Int)) := hh7.cell 0; have x1 : w7.cell? ⟨w1.heap.size, 1, none⟩ = some (.string (bs (b.drop k1))) := hh7.cell 1; have y0 : w7.cell? ⟨p, 0, none⟩ = some (.int .i64 0) := hm7.cell 0; have y1 : w7.cell? ⟨p, 1, none⟩ = some (.string (bs [])) := hm7.cell 1; have z0 : w7.frozen? ⟨p, 0, none⟩ = false := hm7.frozen 0; have z1 : w7.frozen? ⟨p, 1, none⟩ = false := hm7.frozen 1))
      refine bodyPost_ret (results_blk_tmp rfl _ rfl ((hm7.set_ 0 (.int .i64 (n1 : Int))).set_ 1 (.string (bs (b.drop k1)))) A.head) rfl ?_
      rw [HR.out]
      exact ⟨rfl, ((hw4.trans g7).setCell (p := ⟨p, 0, none⟩) hwp _).setCell (p := ⟨p, 1, none⟩) hwp _⟩
    · rw [if_neg hE] at hR
      have HR := sec hR
      obtain ⟨E, hEE⟩ : ∃ E, E = hdE (n1 : Int) (b.drop k1) := ⟨_, rfl⟩
      rw [← hEE] at HG HR hE
      clear HRES hEE hR
      go_enter Tryd.func18, Tryd.ntmps18
      go_wp2_with (first
        | (rw [← hwa, ← hp]; clear hwa hp; go_wp2_with fail)
        | (go_at_call 46; refine Calls.mono (HGet.out _) ?_; rintro e w1 ⟨rfl, g1⟩; have hm4 := (HZ.out.gr g1).alloc (.cells #[.int .i64 (n1 : Int), .string (bs (b.drop k1))] 26); have hh4 := Blk.new w1 26 #[.int .i64 (n1 : Int), .string (bs (b.drop k1))]; have hw4 := (HGZ.out.trans g1).alloc (.cells #[.int .i64 (n1 : Int), .string (bs (b.drop k1))] 26))
        | (go_at_call 20; refine Calls.mono (HG.out _) ?_; rintro e w7 ⟨rfl, g7⟩; have hm7 := hm4.gr g7; have y0 : w7.cell? ⟨p, 0, none⟩ = some (.int .i64 0) := hm7.cell 0; have y1 : w7.cell? ⟨p, 1, none⟩ = some (.string (bs [])) := hm7.cell 1; have z0 : w7.frozen? ⟨p, 0, none⟩ = false := hm7.frozen 0; have z1 : w7.frozen? ⟨p, 1, none⟩ = false := hm7.frozen 1))
      refine bodyPost_ret (results_blk_tmp rfl _ rfl ((hm7.set_ 0 (.int .i64 0)).set_ 1 (.string (bs []))) A.head) rfl ?_
      rw [HR.out]
      exact ⟨rfl, ((hw4.trans g7).setCell (p := ⟨p, 0, none⟩) hwp _).setCell (p := ⟨p, 1, none⟩) hwp _⟩
  · have HR := sec hR
    by_cases hq0 : e1 = 0
    · have h32 : ¬ (b.length : Int) - (k1 : Int) = 32 := by
        intro h; exact h1 ⟨hq0, by omega⟩
      subst hq0
      clear HRES hR h1
      go_enter Tryd.func18, Tryd.ntmps18
      go_wp2_with (first
        | (rw [← hwa, ← hp]; clear hwa hp; go_wp2_with fail)
        | (go_at_call 46; refine Calls.mono (HGet.out _) ?_; rintro e w1 ⟨rfl, g1⟩; have hm7 := HZ.out.gr g1; have hw7 := HGZ.out.trans g1; have y0 : w1.cell? ⟨p, 0, none⟩ = some (.int .i64 0) := hm7.cell 0; have y1 : w1.cell? ⟨p, 1, none⟩ = some (.string (bs [])) := hm7.cell 1; have z0 : w1.frozen? ⟨p, 0, none⟩ = false := hm7.frozen 0; have z1 : w1.frozen? ⟨p, 1, none⟩ = false := hm7.frozen 1))
      refine bodyPost_ret (results_blk_tmp rfl _ rfl ((hm7.set_ 0 (.int .i64 0)).set_ 1 (.string (bs []))) A.head) rfl ?_
      rw [HR.out]
      exact ⟨rfl, (hw7.setCell (p := ⟨p, 0, none⟩) hwp _).setCell (p := ⟨p, 1, none⟩) hwp _⟩
    · have h3 : ¬ (e1 : Int) = 0 := by omega
      clear HRES hR h1
      go_enter Tryd.func18, Tryd.ntmps18
      go_wp2_with (first
        | (rw [← hwa, ← hp]; clear hwa hp; go_wp2_with fail)
        | (go_at_call 46; refine Calls.mono (HGet.out _) ?_; rintro e w1 ⟨rfl, g1⟩; have hm7 := HZ.out.gr g1; have hw7 := HGZ.out.trans g1; have y0 : w1.cell? ⟨p, 0, none⟩ = some (.int .i64 0) := hm7.cell 0; have y1 : w1.cell? ⟨p, 1, none⟩ = some (.string (bs [])) := hm7.cell 1; have z0 : w1.frozen? ⟨p, 0, none⟩ = false := hm7.frozen 0; have z1 : w1.frozen? ⟨p, 1, none⟩ = false := hm7.frozen 1))
      refine bodyPost_ret (results_blk_tmp rfl _ rfl ((hm7.set_ 0 (.int .i64 0)).set_ 1 (.string (bs []))) A.head) rfl ?_
      rw [HR.out]
      exact ⟨rfl, (hw7.setCell (p := ⟨p, 0, none⟩) hwp _).setCell (p := ⟨p, 1, none⟩) hwp _⟩
end Go.Proofs.YtbhpglhmnpcnkaaDoor

namespace Go.Proofs.YtbhpglhmnpcnkaaDoor
open Go.RowKit
set_option linter.unusedVariables false

/-- a file's bytes without the sum behind them -/
def chk (fs : List Fl) (name : List UInt8) : List UInt8 × Int :=
  if (readR fs name).2 = 0 then
    (if 32 ≤ (readR fs name).1.length ∧ sha ((readR fs name).1.take ((readR fs name).1.length - 32)) = (readR fs name).1.drop ((readR fs name).1.length - 32) then ((readR fs name).1.take ((readR fs name).1.length - 32), 0) else ([], 5))
  else ([], (readR fs name).2)
theorem readR_len (fs : List Fl) (name : List UInt8) : (readR fs name).1.length ≤ 1048576 := by
  unfold readR
  cases hg : goodFs fs with
  | false => simp
  | true =>
    cases hh : hasF name fs with
    | false => simp
    | true =>
      obtain ⟨h1, _⟩ := hasF_lt (goodFs_sorted hg) hh
      simp only [if_true]
      rw [List.getD_eq_getElem?_getD, List.getElem?_eq_getElem h1]
      have := (goodFs_ok hg _ (List.getElem_mem h1)).2.2
      simp only [Option.getD_some, List.length_append]
      exact this

set_option maxRecDepth 100000 in
set_option maxHeartbeats 4000000 in
theorem checked_any (fs : List Fl) (name : List UInt8) (A : Option Addr) (n cap : Nat) (f : Int) (w : World) (hn : n ≤ 1099511627776) (hx : FRow w A n fs) (hs : ∀ f ∈ fs, f.1.length ≤ 1099511627776 ∧ f.2.1.length ≤ 1099511627776 ∧ f.2.2.length ≤ 1099511627776) (hT : TabK w) :
    Calls Tryd.prog 27 #[diskV A n cap f, .string (bs name)] w fun e w' => e = .returned (.tuple #[.string (bs (chk fs name).1), .int .i64 (chk fs name).2]) ∧ Gr w w' := by
  have g0 := (Gr.refl w).alloc (.cells #[.slice A n cap, .int .i64 f] 24)
  have HRD := sec (read_any fs name A n cap f _ hn (hx.gr g0) hs)
  have HRL := sec (readR_len fs name)
  obtain ⟨R, hR⟩ : ∃ R, R = readR fs name := ⟨_, rfl⟩
  have HCK : Sec (chk fs name = if R.2 = 0 then (if 32 ≤ R.1.length ∧ sha (R.1.take (R.1.length - 32)) = R.1.drop (R.1.length - 32) then (R.1.take (R.1.length - 32), 0) else ([], 5)) else ([], R.2)) := sec (by rw [hR]; rfl)
  rw [← hR] at HRD HRL
  have HT := sec hT
  have HG0 := sec g0
  clear hR hx hs hT g0
  unfold diskV at HRD
  unfold diskV
  obtain ⟨r, er⟩ := R
  simp only at HCK HRL
  by_cases he : er = 0
  · subst he
    by_cases hl : 32 ≤ r.length
    · obtain ⟨m, hm⟩ : ∃ m, m = r.length - 32 := ⟨_, rfl⟩
      rw [← hm] at HCK
      have hmr : m ≤ r.length := by omega
      have hkm : (r.length : Int) - 32 = (m : Int) := by omega
      have hmi : (m : Int) ≤ (r.length : Int) := by omega
      have hrl : r.length ≤ 1048576 := HRL.out
      have HSU : Sec (∀ W, Gr w W → Calls Tryd.prog 51 #[.string (bs (r.take m))] W fun e w' => e = .returned (.string (bs (sha (r.take m)))) ∧ Gr W w') := sec (fun W g => sum_any (r.take m) W (HT.out.gr g) (by rw [List.length_take]; omega))
      have HL := sec hl
      have hwr : IntKind.i64.wrap ((r.length : Int) - 32) = (m : Int) := by rw [hkm]; exact IntWalk.i64_in _ (by omega)
      have hm0 : decide ((m : Int) < 0) = false := decide_eq_false (by omega)
      clear hm hl hrl hkm
      cases hq : sha (r.take m) == r.drop m with
      | true =>
        have hq' : sha (r.take m) = r.drop m := by simpa using hq
        rw [if_pos rfl, if_pos ⟨HL.out, hq'⟩] at HCK
        rw [HCK.out]
        rw [hq'] at HSU
        clear hq hq'
        go_enter Tryd.func27, Tryd.ntmps27
        go_wp2_with (go_at_call 56; refine Calls.mono HRD.out ?_; rintro e w1 ⟨rfl, g1⟩)
        have gg1 := sec (HG0.out.trans g1)
        have g1d : Gr w1 w1.drew := (Gr.refl _).drew
        go_region_held3 (fun w' => Gr w1 w') (first | with_reducible assumption | exact (Gr.refl _).drew | exact Gr.refl _ | fail)
          (first
            | (go_at_call 51; (with_reducible refine Calls.mono (HSU.out w1.drew gg1.out.drew) ?_); rintro e w2 ⟨rfl, g2⟩; have gg2 : Gr w1 w2 := Gr.trans g1d g2)
            | fail)
        all_goals (go_wp2_with fail; go_ret2; exact ⟨rfl, gg1.out.trans gg2⟩)
      | false =>
        have hq' : ¬ sha (r.take m) = r.drop m := by simpa using hq
        rw [if_pos rfl, if_neg (fun h => hq' h.2)] at HCK
        rw [HCK.out]
        obtain ⟨S, hS⟩ : ∃ S, S = sha (r.take m) := ⟨_, rfl⟩
        rw [← hS] at HSU hq
        clear hq' hS
        go_enter Tryd.func27, Tryd.ntmps27
        go_wp2_with (go_at_call 56; refine Calls.mono HRD.out ?_; rintro e w1 ⟨rfl, g1⟩)
        have gg1 := sec (HG0.out.trans g1)
        have g1d : Gr w1 w1.drew := (Gr.refl _).drew
        go_region_held3 (fun w' => Gr w1 w') (first | with_reducible assumption | exact (Gr.refl _).drew | exact Gr.refl _ | fail)
          (first
            | (go_at_call 51; (with_reducible refine Calls.mono (HSU.out w1.drew gg1.out.drew) ?_); rintro e w2 ⟨rfl, g2⟩; have gg2 : Gr w1 w2 := Gr.trans g1d g2)
            | fail)
        all_goals (go_wp2_with fail; go_ret2; exact ⟨rfl, gg1.out.trans gg2⟩)
    · rw [if_pos rfl, if_neg (fun h => hl h.1)] at HCK
      rw [HCK.out]
      obtain ⟨K, hK⟩ : ∃ K, K = (r.length : Int) - 32 := ⟨_, rfl⟩
      have hwr : IntKind.i64.wrap ((r.length : Int) - 32) = K := by rw [← hK]; exact IntWalk.i64_in _ (by omega)
      have hk0 : decide (K < 0) = true := decide_eq_true (by omega)
      clear hK hl
      go_enter Tryd.func27, Tryd.ntmps27
      go_wp2_with (go_at_call 56; refine Calls.mono HRD.out ?_; rintro e w1 ⟨rfl, g1⟩)
      go_quiet (fail)
      go_wp2_with fail
      go_ret2
      exact ⟨rfl, (HG0.out.trans g1).drewN _⟩
  · rw [if_neg he] at HCK
    rw [HCK.out]
    go_enter Tryd.func27, Tryd.ntmps27
    go_wp2_with (go_at_call 56; refine Calls.mono HRD.out ?_; rintro e w1 ⟨rfl, g1⟩)
    go_ret2
    exact ⟨rfl, HG0.out.trans g1⟩
end Go.Proofs.YtbhpglhmnpcnkaaDoor

namespace Go.Proofs.YtbhpglhmnpcnkaaDoor
open Go.RowKit
set_option linter.unusedVariables false

set_option maxRecDepth 100000 in
set_option maxHeartbeats 4000000 in
theorem summed_any (fs : List Fl) (name : List UInt8) (A : Option Addr) (n cap : Nat) (f : Int) (w : World) (hn : n ≤ 1099511627776) (hx : FRow w A n fs) (hs : ∀ f ∈ fs, f.1.length ≤ 1099511627776 ∧ f.2.1.length ≤ 1099511627776 ∧ f.2.2.length ≤ 1099511627776) :
    Calls Tryd.prog 30 #[diskV A n cap f, .string (bs name)] w fun e w' => e = .returned (.tuple #[.string (bs (chk fs name).1), .int .i64 (chk fs name).2]) ∧ Gr w w' := by
  have g0 := (Gr.refl w).alloc (.cells #[.slice A n cap, .int .i64 f] 24)
  have HRD := sec (rread_any fs name A n cap f _ hn (hx.gr g0) hs)
  have HRL := sec (readR_len fs name)
  obtain ⟨R, hR⟩ : ∃ R, R = readR fs name := ⟨_, rfl⟩
  have HCK : Sec (chk fs name = if R.2 = 0 then (if 32 ≤ R.1.length ∧ sha (R.1.take (R.1.length - 32)) = R.1.drop (R.1.length - 32) then (R.1.take (R.1.length - 32), 0) else ([], 5)) else ([], R.2)) := sec (by rw [hR]; rfl)
  rw [← hR] at HRD HRL
  have HG0 := sec g0
  clear hR hx hs g0
  unfold diskV at HRD
  unfold diskV
  obtain ⟨r, er⟩ := R
  simp only at HCK HRL
  by_cases he : er = 0
  · subst he
    by_cases hl : 32 ≤ r.length
    · obtain ⟨m, hm⟩ : ∃ m, m = r.length - 32 := ⟨_, rfl⟩
      rw [← hm] at HCK
      have hmr : m ≤ r.length := by omega
      have hkm : (r.length : Int) - 32 = (m : Int) := by omega
      have hmi : (m : Int) ≤ (r.length : Int) := by omega
      have hrl : r.length ≤ 1048576 := HRL.out
      have HSU : Sec (∀ W, Gr w W → Calls Tryd.prog 48 #[.string (bs (r.take m))] W fun e w' => e = .returned (.string (bs (sha (r.take m)))) ∧ Gr W w') := sec (fun W g => rsum_any (r.take m) W (by rw [List.length_take]; omega))
      have HL := sec hl
      have hwr : IntKind.i64.wrap ((r.length : Int) - 32) = (m : Int) := by rw [hkm]; exact IntWalk.i64_in _ (by omega)
      have hm0 : decide ((r.length : Int) < 32) = false := decide_eq_false (by omega)
      clear hm hl hrl hkm
      cases hq : sha (r.take m) == r.drop m with
      | true =>
        have hq' : sha (r.take m) = r.drop m := by simpa using hq
        rw [if_pos rfl, if_pos ⟨HL.out, hq'⟩] at HCK
        rw [HCK.out]
        rw [hq'] at HSU
        clear hq hq'
        go_enter Tryd.func30, Tryd.ntmps30
        go_wp2_with (go_at_call 58; refine Calls.mono HRD.out ?_; rintro e w1 ⟨rfl, g1⟩)
        have gg1 := sec (HG0.out.trans g1)
        have g1d : Gr w1 w1.drew := (Gr.refl _).drew
        go_region_held3 (fun w' => Gr w1 w') (first | with_reducible assumption | exact (Gr.refl _).drew | exact Gr.refl _ | fail)
          (first
            | (go_at_call 48; (with_reducible refine Calls.mono (HSU.out w1.drew gg1.out.drew) ?_); rintro e w2 ⟨rfl, g2⟩; have gg2 : Gr w1 w2 := Gr.trans g1d g2)
            | fail)
        all_goals (go_wp2_with fail; go_ret2; exact ⟨rfl, gg1.out.trans gg2⟩)
      | false =>
        have hq' : ¬ sha (r.take m) = r.drop m := by simpa using hq
        rw [if_pos rfl, if_neg (fun h => hq' h.2)] at HCK
        rw [HCK.out]
        obtain ⟨S, hS⟩ : ∃ S, S = sha (r.take m) := ⟨_, rfl⟩
        rw [← hS] at HSU hq
        clear hq' hS
        go_enter Tryd.func30, Tryd.ntmps30
        go_wp2_with (go_at_call 58; refine Calls.mono HRD.out ?_; rintro e w1 ⟨rfl, g1⟩)
        have gg1 := sec (HG0.out.trans g1)
        have g1d : Gr w1 w1.drew := (Gr.refl _).drew
        go_region_held3 (fun w' => Gr w1 w') (first | with_reducible assumption | exact (Gr.refl _).drew | exact Gr.refl _ | fail)
          (first
            | (go_at_call 48; (with_reducible refine Calls.mono (HSU.out w1.drew gg1.out.drew) ?_); rintro e w2 ⟨rfl, g2⟩; have gg2 : Gr w1 w2 := Gr.trans g1d g2)
            | fail)
        all_goals (go_wp2_with fail; go_ret2; exact ⟨rfl, gg1.out.trans gg2⟩)
    · rw [if_pos rfl, if_neg (fun h => hl h.1)] at HCK
      rw [HCK.out]
      obtain ⟨K, hK⟩ : ∃ K, K = (r.length : Int) - 32 := ⟨_, rfl⟩
      have hwr : IntKind.i64.wrap ((r.length : Int) - 32) = K := by rw [← hK]; exact IntWalk.i64_in _ (by omega)
      have hk0 : decide ((r.length : Int) < 32) = true := decide_eq_true (by omega)
      clear hK hl
      go_enter Tryd.func30, Tryd.ntmps30
      go_wp2_with (go_at_call 58; refine Calls.mono HRD.out ?_; rintro e w1 ⟨rfl, g1⟩)
      go_quiet (fail)
      go_wp2_with fail
      go_ret2
      exact ⟨rfl, (HG0.out.trans g1).drewN _⟩
  · rw [if_neg he] at HCK
    rw [HCK.out]
    go_enter Tryd.func30, Tryd.ntmps30
    go_wp2_with (go_at_call 58; refine Calls.mono HRD.out ?_; rintro e w1 ⟨rfl, g1⟩)
    go_ret2
    exact ⟨rfl, HG0.out.trans g1⟩
end Go.Proofs.YtbhpglhmnpcnkaaDoor

namespace Go.Proofs.YtbhpglhmnpcnkaaDoor
open Go.RowKit
set_option linter.unusedVariables false

theorem aggWit : AggOk 28 6 := A.wit
def witA (who : Int) (key : List UInt8) (A : Option Addr) (n cap : Nat) (f sz : Int) (r : List UInt8) : Array Value := #[.int .i64 who, .string (bs key), .slice A n cap, .int .i64 f, .int .i64 sz, .string (bs r)]
theorem witA_one (who : Int) (key : List UInt8) (A : Option Addr) (n cap : Nat) (f sz : Int) (r : List UInt8) : (witA who key A n cap f sz r).all (·.oneCell') = true := by simp [witA, Value.oneCell']
def seenB : List UInt8 := [115, 101, 101, 110]
/-- P12.4: files, fuse, the seen head, the error -/
def wakeR (fs : List Fl) (f keep sz : Int) (r : List UInt8) : List Fl × Int × Int × List UInt8 × Int :=
  if (crashR fs f keep).2.2 = 0 then
    (if (chk (crashR fs f keep).1 seenB).2 = 7 then ((crashR fs f keep).1, (crashR fs f keep).2.1, 0, sha [], 0)
     else if (chk (crashR fs f keep).1 seenB).2 = 0 then
      (if (hdRd (chk (crashR fs f keep).1 seenB).1).2.2 = 0 then ((crashR fs f keep).1, (crashR fs f keep).2.1, (hdRd (chk (crashR fs f keep).1 seenB).1).1, (hdRd (chk (crashR fs f keep).1 seenB).1).2.1, 0) else (fs, f, sz, r, (hdRd (chk (crashR fs f keep).1 seenB).1).2.2))
     else (fs, f, sz, r, (chk (crashR fs f keep).1 seenB).2))
  else (fs, f, sz, r, (crashR fs f keep).2.2)

theorem hdRd_ne7 (b : List UInt8) : (hdRd b).2.2 ≠ 7 := by
  unfold hdRd
  split
  · split
    · simp
    · have := hdE_or (gN b : Int) (b.drop (gK b)); simp only; omega
  · simp
theorem crash_sz {fs : List Fl} {f keep : Int} (hs : ∀ f ∈ fs, f.1.length ≤ 1099511627776 ∧ f.2.1.length ≤ 1099511627776 ∧ f.2.2.length ≤ 1099511627776) : ∀ x ∈ (crashR fs f keep).1, x.1.length ≤ 1099511627776 ∧ x.2.1.length ≤ 1099511627776 ∧ x.2.2.length ≤ 1099511627776 := by
  intro x hx
  unfold crashR at hx
  split at hx
  · rename_i h
    obtain ⟨y, hy, rfl⟩ := List.mem_map.1 hx
    have h1 := goodFs_ok h.1 y hy
    have h2 := hs y hy
    unfold crashF
    simp only [List.length_append, List.length_take, List.length_nil]
    omega
  · exact hs x hx

theorem chk_len (fs : List Fl) (name : List UInt8) : (chk fs name).1.length ≤ 1048576 := by
  have := readR_len fs name
  unfold chk
  split
  · split
    · simp only [List.length_take]; omega
    · simp
  · simp
theorem wake_row {wa w1 : World} {A A1 : Option Addr} {n cap1 p : Nat} {gs : List Fl} (hx : ∀ b off, A = some ⟨b, off, none⟩ → 0 < n → b < p) (hp : p + 1 < wa.heap.size) (hg : Gr wa w1) (h1 : FRow w1 A1 n gs) (ha : A1 = A ∨ w1.ownsRow wa.heap.size 87 3 (.slice A1 n cap1) n (gs.flatMap fileC)) :
    ∀ g, (g = p ∨ g = p + 1 ∨ w1.heap.size ≤ g) → 0 < n → ∀ b off, A1 = some ⟨b, off, none⟩ → b ≠ g := by
  intro g hgg h0 b off e
  have hs := hg.size
  rcases ha with rfl | ha
  · have := hx b off e h0
    rcases hgg with h | h | h <;> omega
  · have := ha.lt b (by rw [e]; rfl)
    rcases hgg with h | h | h <;> omega
theorem wake_set {W : World} {p n cap n' cap1 : Nat} {who : Int} {key r r2 : List UInt8} {A A1 : Option Addr} {f sz u s2 : Int} {z : Array Value} (B : Blk W p 28 (witA who key A n cap f sz r)) (Z : Blk W (p + 1) 28 z) :
    Blk ((((W.setCell ⟨p, 2, none⟩ (.slice A1 n' cap1)).setCell ⟨p, 3, none⟩ (.int .i64 u)).setCell ⟨p, 4, none⟩ (.int .i64 s2)).setCell ⟨p, 5, none⟩ (.string (bs r2))).drew p 28 (witA who key A1 n' cap1 u s2 r2) ∧
    Blk ((((W.setCell ⟨p, 2, none⟩ (.slice A1 n' cap1)).setCell ⟨p, 3, none⟩ (.int .i64 u)).setCell ⟨p, 4, none⟩ (.int .i64 s2)).setCell ⟨p, 5, none⟩ (.string (bs r2))).drew (p + 1) 28 z :=
  ⟨((((B.set_ 2 _).set_ 3 _).set_ 4 _).set_ 5 _).drew, ((((Z.far (p := ⟨p, 2, none⟩) (by show p + 1 ≠ p; omega) _).far (p := ⟨p, 3, none⟩) (by show p + 1 ≠ p; omega) _).far (p := ⟨p, 4, none⟩) (by show p + 1 ≠ p; omega) _).far (p := ⟨p, 5, none⟩) (by show p + 1 ≠ p; omega) _).drew⟩
theorem wake_set0 {W : World} {p n cap n' cap1 : Nat} {who : Int} {key r r2 : List UInt8} {A A1 : Option Addr} {f sz u s2 : Int} {z : Array Value} (B : Blk W p 28 (witA who key A n cap f sz r)) (Z : Blk W (p + 1) 28 z) :
    Blk ((((W.setCell ⟨p, 2, none⟩ (.slice A1 n' cap1)).setCell ⟨p, 3, none⟩ (.int .i64 u)).setCell ⟨p, 4, none⟩ (.int .i64 s2)).setCell ⟨p, 5, none⟩ (.string (bs r2))) p 28 (witA who key A1 n' cap1 u s2 r2) ∧
    Blk ((((W.setCell ⟨p, 2, none⟩ (.slice A1 n' cap1)).setCell ⟨p, 3, none⟩ (.int .i64 u)).setCell ⟨p, 4, none⟩ (.int .i64 s2)).setCell ⟨p, 5, none⟩ (.string (bs r2))) (p + 1) 28 z :=
  ⟨(((B.set_ 2 _).set_ 3 _).set_ 4 _).set_ 5 _, (((Z.far (p := ⟨p, 2, none⟩) (by show p + 1 ≠ p; omega) _).far (p := ⟨p, 3, none⟩) (by show p + 1 ≠ p; omega) _).far (p := ⟨p, 4, none⟩) (by show p + 1 ≠ p; omega) _).far (p := ⟨p, 5, none⟩) (by show p + 1 ≠ p; omega) _⟩
theorem wake_keep {W : World} {p n : Nat} {A1 : Option Addr} {gs : List Fl} (h : FRow W A1 n gs) (hne : 0 < n → ∀ b off, A1 = some ⟨b, off, none⟩ → b ≠ p) (j : Nat) (v : Value) : FRow (W.setCell ⟨p, j, none⟩ v) A1 n gs :=
  Row.only h (grown_setCell W ⟨p, j, none⟩ v) hne

set_option maxRecDepth 100000 in
set_option maxHeartbeats 4000000 in
theorem wake_any (fs : List Fl) (who : Int) (key : List UInt8) (A : Option Addr) (n cap : Nat) (f sz : Int) (r : List UInt8) (keep : Int) (w : World) (hn : n ≤ 1099511627776) (hx : FRow w A n fs) (hA : A = none → n = 0 ∧ cap = 0) (hs : ∀ f ∈ fs, f.1.length ≤ 1099511627776 ∧ f.2.1.length ≤ 1099511627776 ∧ f.2.2.length ≤ 1099511627776) (hT : TabK w) :
    Calls Tryd.prog 7 #[.agg (witA who key A n cap f sz r), .int .i64 keep] w fun e w' => ∃ A' cap', e = .returned (.tuple #[.agg (witA who key A' n cap' (wakeR fs f keep sz r).2.1 (wakeR fs f keep sz r).2.2.1 (wakeR fs f keep sz r).2.2.2.1), .int .i64 (wakeR fs f keep sz r).2.2.2.2]) ∧ FRow w' A' n (wakeR fs f keep sz r).1 ∧ Gr w w' := by
  have hg0 := ((Gr.refl w).alloc (.cells (witA who key A n cap f sz r) 28)).alloc (.cells (witA 0 [] none 0 0 0 0 []) 28)
  have hb1 := (Blk.new w 28 (witA who key A n cap f sz r)).alloc (.cells (witA 0 [] none 0 0 0 0 []) 28)
  have hb2 := Blk.new1 w (.cells (witA who key A n cap f sz r) 28) 28 (witA 0 [] none 0 0 0 0 [])
  have hx1 := hx.gr hg0
  have hT1 := hT.gr hg0
  obtain ⟨wa, hwa⟩ : ∃ x, x = (w.alloc (.cells (witA who key A n cap f sz r) 28)).alloc (.cells (witA 0 [] none 0 0 0 0 []) 28) := ⟨_, rfl⟩
  rw [← hwa] at hg0 hb1 hb2 hx1 hT1
  obtain ⟨p, hp⟩ : ∃ p, p = w.heap.size := ⟨_, rfl⟩
  have hwp : w.heap.size ≤ p + 1 := by omega
  have hpw : w.heap.size ≤ p := by omega
  rw [← hp] at hb1 hb2
  have HCR := sec (crash_any fs A n cap f keep wa hn hx1 hA hs)
  have hcz := crash_sz (f := f) (keep := keep) hs
  obtain ⟨C, hC⟩ : ∃ C, C = crashR fs f keep := ⟨_, rfl⟩
  rw [← hC] at HCR hcz
  have HWK : Sec (wakeR fs f keep sz r = if C.2.2 = 0 then
    (if (chk C.1 seenB).2 = 7 then (C.1, C.2.1, 0, sha [], 0)
     else if (chk C.1 seenB).2 = 0 then
      (if (hdRd (chk C.1 seenB).1).2.2 = 0 then (C.1, C.2.1, (hdRd (chk C.1 seenB).1).1, (hdRd (chk C.1 seenB).1).2.1, 0) else (fs, f, sz, r, (hdRd (chk C.1 seenB).1).2.2))
     else (fs, f, sz, r, (chk C.1 seenB).2))
    else (fs, f, sz, r, C.2.2)) := sec (by rw [hC]; rfl)
  obtain ⟨gs, u, ec⟩ := C
  simp only at HWK hcz
  have HX := sec hx1
  have HX0 := sec hx
  have HT := sec hT1
  have HCZ := sec hcz
  have HB := sec hb1
  have HR2 := sec hb2
  have HG0 := sec hg0
  have c2 : wa.cell? ⟨p, 2, none⟩ = some (.slice A n cap) := hb1.cell 2
  have c3 : wa.cell? ⟨p, 3, none⟩ = some (.int .i64 f) := hb1.cell 3
  clear hC hx hx1 hT hT1 hs hA hb1 hb2 hg0 hcz
  unfold diskV at HCR
  by_cases he : ec = 0
  · subst he
    rw [if_pos rfl] at HWK
    have HEM : Sec (∀ W, Gr wa W → Calls Tryd.prog 21 #[] W fun e w' => e = .returned (.agg #[.int .i64 0, .string (bs (sha []))]) ∧ Gr W w') := sec (fun W g => empty_any W (HT.out.gr g))
    have hkl := chk_len gs seenB
    have HCH : Sec (∀ W A1 cap1, Gr wa W → FRow W A1 n gs → Calls Tryd.prog 27 #[.agg #[.slice A1 n cap1, .int .i64 u], .string (bs seenB)] W fun e w' => e = .returned (.tuple #[.string (bs (chk gs seenB).1), .int .i64 (chk gs seenB).2]) ∧ Gr W w') := sec (fun W A1 cap1 g h => checked_any gs seenB A1 n cap1 u W hn h HCZ.out (HT.out.gr g))
    obtain ⟨K, hK⟩ : ∃ K, K = chk gs seenB := ⟨_, rfl⟩
    rw [← hK] at HCH HWK hkl
    obtain ⟨kb, ke⟩ := K
    simp only at HWK HCH hkl
    have HRE : Sec (∀ W, Calls Tryd.prog 17 #[.string (bs kb)] W fun e w' => e = .returned (.tuple #[.agg (headC (hdRd kb).1 (hdRd kb).2.1), .int .i64 (hdRd kb).2.2]) ∧ Gr W w') := sec (fun W => hread_any kb W (by omega))
    have h7 := hdRd_ne7 kb
    obtain ⟨HD, hHD⟩ : ∃ H, H = hdRd kb := ⟨_, rfl⟩
    rw [← hHD] at HRE HWK h7
    obtain ⟨hz, hr, hE⟩ := HD
    simp only at HWK HRE h7
    have hseen : bs seenB = bs [115, 101, 101, 110] := rfl
    rw [hseen] at HCH
    have HXB : Sec (∀ b off, A = some ⟨b, off, none⟩ → 0 < n → b < p) := sec (fun b off e h0 => by
      obtain ⟨b', off', e', hlt⟩ := Row.lt HX0.out h0 (by omega)
      rw [e] at e'
      injection e' with e'
      injection e' with e1 _
      rw [e1, hp]; exact hlt)
    have hpa : p + 1 < wa.heap.size := HR2.out.lt
    clear hK hHD hkl hseen
    unfold headC at HRE
    unfold witA at hwa
    unfold witA
    by_cases hk7 : ke = 7
    · subst hk7
      rw [if_pos rfl] at HWK
      rw [HWK.out]
      clear HWK HRE h7
      go_enter Tryd.func7, Tryd.ntmps7
      go_wp2_with (first
      | (rw [← hwa, ← hp]; clear hwa hp; go_wp2_with fail)
      | (go_at_call 26; refine Calls.mono HCR.out ?_; rintro e w1 ⟨A1, cap1, rfl, h1, g1, ha1⟩)
      | (go_at_call 21; refine Calls.mono (HEM.out (w1.alloc (.cells #[.slice A1 n cap1, .int .i64 u] 24)) (g1.alloc _)) ?_; rintro e w2 ⟨rfl, g2⟩; have g3 : Gr wa (w2.alloc (.cells #[.int .i64 0, .string (bs (sha []))] 26)) := ((g1.alloc _).trans g2).alloc _; have hq3 := ((Blk.new w1 24 #[.slice A1 n cap1, .int .i64 u]).gr g2).alloc (.cells #[.int .i64 0, .string (bs (sha []))] 26); have q03 : (w2.alloc (.cells #[.int .i64 0, .string (bs (sha []))] 26)).cell? ⟨w1.heap.size, 0, none⟩ = some (.slice A1 n cap1) := hq3.cell 0; have q13 : (w2.alloc (.cells #[.int .i64 0, .string (bs (sha []))] 26)).cell? ⟨w1.heap.size, 1, none⟩ = some (.int .i64 u) := hq3.cell 1; have h3 := ((h1.gr ((Gr.refl w1).alloc (.cells #[.slice A1 n cap1, .int .i64 u] 24))).gr g2).gr ((Gr.refl w2).alloc (.cells #[.int .i64 0, .string (bs (sha []))] 26)); have hh3 := Blk.new w2 26 #[.int .i64 0, .string (bs (sha []))])
      | (go_at_call 27; refine Calls.mono (HCH.out _ A1 cap1 g3 h3) ?_; rintro e w4 ⟨rfl, g4⟩; have hq4 := hq3.gr g4; have hh4 := hh3.gr g4; have h4 := h3.gr g4; have gg4 := g3.trans g4; have B4 := HB.out.gr gg4; have Z4 := HR2.out.gr gg4; have hsz1 : p + 1 < w1.heap.size := (HR2.out.gr g1).lt; have hsz2 : w1.heap.size < w2.heap.size := ((Blk.new w1 24 #[.slice A1 n cap1, .int .i64 u]).gr g2).lt; have q04 : w4.cell? ⟨w1.heap.size, 0, none⟩ = some (.slice A1 n cap1) := hq4.cell 0; have q14 : w4.cell? ⟨w1.heap.size, 1, none⟩ = some (.int .i64 u) := hq4.cell 1; have k04 : w4.cell? ⟨w2.heap.size, 0, none⟩ = some (.int .i64 0) := hh4.cell 0; have k14 : w4.cell? ⟨w2.heap.size, 1, none⟩ = some (.string (bs (sha []))) := hh4.cell 1)
)
      have B' : Blk w4 p 28 #[.int .i64 who, .string (bs key), .slice A n cap, .int .i64 f, .int .i64 sz, .string (bs r)] := B4
      have p2 : w4.cell? ⟨p, 2, none⟩ = some (.slice A n cap) := B'.cell 2
      have p3 : w4.cell? ⟨p, 3, none⟩ = some (.int .i64 f) := B'.cell 3
      have p4 : w4.cell? ⟨p, 4, none⟩ = some (.int .i64 sz) := B'.cell 4
      have p5 : w4.cell? ⟨p, 5, none⟩ = some (.string (bs r)) := B'.cell 5
      have z2 : w4.frozen? ⟨p, 2, none⟩ = false := B'.frozen 2
      have z3 : w4.frozen? ⟨p, 3, none⟩ = false := B'.frozen 3
      have z4 : w4.frozen? ⟨p, 4, none⟩ = false := B'.frozen 4
      have z5 : w4.frozen? ⟨p, 5, none⟩ = false := B'.frozen 5
      go_region
      obtain ⟨BX, ZX⟩ := wake_set (n' := n) (A1 := A1) (cap1 := cap1) (u := u) (s2 := 0) (r2 := (sha [])) B4 Z4
      have gX : Gr w ((((w4.setCell ⟨p, 2, none⟩ (.slice A1 n cap1)).setCell ⟨p, 3, none⟩ (.int .i64 u)).setCell ⟨p, 4, none⟩ (.int .i64 0)).setCell ⟨p, 5, none⟩ (.string (bs (sha [])))).drew := (((((HG0.out.trans gg4).setCell (p := ⟨p, 2, none⟩) hpw _).setCell (p := ⟨p, 3, none⟩) hpw _).setCell (p := ⟨p, 4, none⟩) hpw _).setCell (p := ⟨p, 5, none⟩) hpw _).drew
      have hne := wake_row HXB.out hpa g1 h1 ha1
      have rX : FRow ((((w4.setCell ⟨p, 2, none⟩ (.slice A1 n cap1)).setCell ⟨p, 3, none⟩ (.int .i64 u)).setCell ⟨p, 4, none⟩ (.int .i64 0)).setCell ⟨p, 5, none⟩ (.string (bs (sha [])))).drew A1 n gs := FRow.gr (wake_keep (wake_keep (wake_keep (wake_keep h4 (hne p (.inl rfl)) 2 _) (hne p (.inl rfl)) 3 _) (hne p (.inl rfl)) 4 _) (hne p (.inl rfl)) 5 _) (Gr.refl _).drew
      go_wp2_with (first
        | (refine wpList_load_blk rfl 28 (.tmp 2) rfl (g := p) rfl BX aggWit ?_)
        | (refine wpList_store_blk rfl 28 (.tmp 4) (.tmp 46) rfl (g := p + 1) (cs' := witA who key A1 n cap1 u 0 (sha [])) rfl rfl ZX aggWit rfl (witA_one _ _ _ _ _ _ _ _) ?_; intro w9 h9 hg9))
      refine bodyPost_ret (results_blk_tmp rfl _ rfl h9 aggWit) rfl ?_
      exact ⟨A1, cap1, rfl, Row.only rX hg9 (hne (p + 1) (.inr (.inl rfl))), Gr.only gX hg9 hwp⟩
    · rw [if_neg hk7] at HWK
      by_cases hk0 : ke = 0
      · subst hk0
        rw [if_pos rfl] at HWK
        by_cases hE0 : hE = 0
        · subst hE0
          rw [if_pos rfl] at HWK
          rw [HWK.out]
          clear HWK h7 hk7
          go_enter Tryd.func7, Tryd.ntmps7
          go_wp2_with (first
          | (rw [← hwa, ← hp]; clear hwa hp; go_wp2_with fail)
          | (go_at_call 26; refine Calls.mono HCR.out ?_; rintro e w1 ⟨A1, cap1, rfl, h1, g1, ha1⟩)
          | (go_at_call 21; refine Calls.mono (HEM.out (w1.alloc (.cells #[.slice A1 n cap1, .int .i64 u] 24)) (g1.alloc _)) ?_; rintro e w2 ⟨rfl, g2⟩; have g3 : Gr wa (w2.alloc (.cells #[.int .i64 0, .string (bs (sha []))] 26)) := ((g1.alloc _).trans g2).alloc _; have hq3 := ((Blk.new w1 24 #[.slice A1 n cap1, .int .i64 u]).gr g2).alloc (.cells #[.int .i64 0, .string (bs (sha []))] 26); have q03 : (w2.alloc (.cells #[.int .i64 0, .string (bs (sha []))] 26)).cell? ⟨w1.heap.size, 0, none⟩ = some (.slice A1 n cap1) := hq3.cell 0; have q13 : (w2.alloc (.cells #[.int .i64 0, .string (bs (sha []))] 26)).cell? ⟨w1.heap.size, 1, none⟩ = some (.int .i64 u) := hq3.cell 1; have h3 := ((h1.gr ((Gr.refl w1).alloc (.cells #[.slice A1 n cap1, .int .i64 u] 24))).gr g2).gr ((Gr.refl w2).alloc (.cells #[.int .i64 0, .string (bs (sha []))] 26)); have hh3 := Blk.new w2 26 #[.int .i64 0, .string (bs (sha []))])
          | (go_at_call 27; refine Calls.mono (HCH.out _ A1 cap1 g3 h3) ?_; rintro e w4 ⟨rfl, g4⟩; have hq4 := hq3.gr g4; have hh4 := hh3.gr g4; have h4 := h3.gr g4; have gg4 := g3.trans g4; have B4 := HB.out.gr gg4; have Z4 := HR2.out.gr gg4; have hsz1 : p + 1 < w1.heap.size := (HR2.out.gr g1).lt; have hsz2 : w1.heap.size < w2.heap.size := ((Blk.new w1 24 #[.slice A1 n cap1, .int .i64 u]).gr g2).lt; have q04 : w4.cell? ⟨w1.heap.size, 0, none⟩ = some (.slice A1 n cap1) := hq4.cell 0; have q14 : w4.cell? ⟨w1.heap.size, 1, none⟩ = some (.int .i64 u) := hq4.cell 1; have k04 : w4.cell? ⟨w2.heap.size, 0, none⟩ = some (.int .i64 0) := hh4.cell 0; have k14 : w4.cell? ⟨w2.heap.size, 1, none⟩ = some (.string (bs (sha []))) := hh4.cell 1)
          | (go_at_call 17; refine Calls.mono (HRE.out _) ?_; rintro e w5 ⟨rfl, g5⟩; have hh5 := hh4.gr g5; have k05 : w5.cell? ⟨w2.heap.size, 0, none⟩ = some (.int .i64 0) := hh5.cell 0; have k15 : w5.cell? ⟨w2.heap.size, 1, none⟩ = some (.string (bs (sha []))) := hh5.cell 1; have j05 : w5.frozen? ⟨w2.heap.size, 0, none⟩ = false := hh5.frozen 0; have j15 : w5.frozen? ⟨w2.heap.size, 1, none⟩ = false := hh5.frozen 1; have B5 := ((B4.gr g5).far (p := ⟨w2.heap.size, 0, none⟩) (by show p ≠ w2.heap.size; omega) (.int .i64 hz)).far (p := ⟨w2.heap.size, 1, none⟩) (by show p ≠ w2.heap.size; omega) (.string (bs hr)); have Z5 := ((Z4.gr g5).far (p := ⟨w2.heap.size, 0, none⟩) (by show p + 1 ≠ w2.heap.size; omega) (.int .i64 hz)).far (p := ⟨w2.heap.size, 1, none⟩) (by show p + 1 ≠ w2.heap.size; omega) (.string (bs hr)); have gg5 : Gr w ((w5.setCell ⟨w2.heap.size, 0, none⟩ (.int .i64 hz)).setCell ⟨w2.heap.size, 1, none⟩ (.string (bs hr))) := ((HG0.out.trans (gg4.trans g5)).setCell (p := ⟨w2.heap.size, 0, none⟩) (by show w.heap.size ≤ w2.heap.size; omega) _).setCell (p := ⟨w2.heap.size, 1, none⟩) (by show w.heap.size ≤ w2.heap.size; omega) _))
          have hne := wake_row HXB.out hpa g1 h1 ha1
          have hws := (((Gr.refl w1).alloc (.cells #[.slice A1 n cap1, .int .i64 u] 24)).trans g2).size
          have r5 : FRow ((w5.setCell ⟨w2.heap.size, 0, none⟩ (.int .i64 hz)).setCell ⟨w2.heap.size, 1, none⟩ (.string (bs hr))) A1 n gs := wake_keep (wake_keep (h4.gr g5) (hne _ (.inr (.inr hws))) 0 _) (hne _ (.inr (.inr hws))) 1 _
          have Q5 := ((hq4.gr g5).far (p := ⟨w2.heap.size, 0, none⟩) (by show w1.heap.size ≠ w2.heap.size; omega) (.int .i64 hz)).far (p := ⟨w2.heap.size, 1, none⟩) (by show w1.heap.size ≠ w2.heap.size; omega) (.string (bs hr))
          have H5 := (hh5.set_ 0 (.int .i64 hz)).set_ 1 (.string (bs hr))
          clear hne hws
          obtain ⟨wv, hwv⟩ : ∃ x, x = (w5.setCell ⟨w2.heap.size, 0, none⟩ (.int .i64 hz)).setCell ⟨w2.heap.size, 1, none⟩ (.string (bs hr)) := ⟨_, rfl⟩
          rw [← hwv] at r5 Q5 H5 B5 Z5 gg5
          rw [← hwv]
          have q0v : wv.cell? ⟨w1.heap.size, 0, none⟩ = some (.slice A1 n cap1) := Q5.cell 0
          have q1v : wv.cell? ⟨w1.heap.size, 1, none⟩ = some (.int .i64 u) := Q5.cell 1
          have h0v : wv.cell? ⟨w2.heap.size, 0, none⟩ = some (.int .i64 hz) := H5.cell 0
          have h1v : wv.cell? ⟨w2.heap.size, 1, none⟩ = some (.string (bs hr)) := H5.cell 1
          clear hwv
          have B' : Blk wv p 28 #[.int .i64 who, .string (bs key), .slice A n cap, .int .i64 f, .int .i64 sz, .string (bs r)] := B5
          have p2 : wv.cell? ⟨p, 2, none⟩ = some (.slice A n cap) := B'.cell 2
          have p3 : wv.cell? ⟨p, 3, none⟩ = some (.int .i64 f) := B'.cell 3
          have p4 : wv.cell? ⟨p, 4, none⟩ = some (.int .i64 sz) := B'.cell 4
          have p5 : wv.cell? ⟨p, 5, none⟩ = some (.string (bs r)) := B'.cell 5
          have z2 : wv.frozen? ⟨p, 2, none⟩ = false := B'.frozen 2
          have z3 : wv.frozen? ⟨p, 3, none⟩ = false := B'.frozen 3
          have z4 : wv.frozen? ⟨p, 4, none⟩ = false := B'.frozen 4
          have z5 : wv.frozen? ⟨p, 5, none⟩ = false := B'.frozen 5
          go_region
          obtain ⟨BX, ZX⟩ := wake_set (n' := n) (A1 := A1) (cap1 := cap1) (u := u) (s2 := hz) (r2 := hr) B5 Z5
          have gX : Gr w ((((wv.setCell ⟨p, 2, none⟩ (.slice A1 n cap1)).setCell ⟨p, 3, none⟩ (.int .i64 u)).setCell ⟨p, 4, none⟩ (.int .i64 hz)).setCell ⟨p, 5, none⟩ (.string (bs hr))).drew := (((((gg5).setCell (p := ⟨p, 2, none⟩) hpw _).setCell (p := ⟨p, 3, none⟩) hpw _).setCell (p := ⟨p, 4, none⟩) hpw _).setCell (p := ⟨p, 5, none⟩) hpw _).drew
          have hne := wake_row HXB.out hpa g1 h1 ha1
          have rX : FRow ((((wv.setCell ⟨p, 2, none⟩ (.slice A1 n cap1)).setCell ⟨p, 3, none⟩ (.int .i64 u)).setCell ⟨p, 4, none⟩ (.int .i64 hz)).setCell ⟨p, 5, none⟩ (.string (bs hr))).drew A1 n gs := FRow.gr (wake_keep (wake_keep (wake_keep (wake_keep r5 (hne p (.inl rfl)) 2 _) (hne p (.inl rfl)) 3 _) (hne p (.inl rfl)) 4 _) (hne p (.inl rfl)) 5 _) (Gr.refl _).drew
          go_wp2_with (first
            | (refine wpList_load_blk rfl 28 (.tmp 2) rfl (g := p) rfl BX aggWit ?_)
            | (refine wpList_store_blk rfl 28 (.tmp 4) (.tmp 46) rfl (g := p + 1) (cs' := witA who key A1 n cap1 u hz hr) rfl rfl ZX aggWit rfl (witA_one _ _ _ _ _ _ _ _) ?_; intro w9 h9 hg9))
          refine bodyPost_ret (results_blk_tmp rfl _ rfl h9 aggWit) rfl ?_
          exact ⟨A1, cap1, rfl, Row.only rX hg9 (hne (p + 1) (.inr (.inl rfl))), Gr.only gX hg9 hwp⟩
        · rw [if_neg hE0] at HWK
          rw [HWK.out]
          have m0 : (hE != 0) = true := by simpa using hE0
          have m7 : (hE != 7) = true := by simpa using h7
          clear HWK hk7
          go_enter Tryd.func7, Tryd.ntmps7
          go_wp2_with (first
          | (rw [← hwa, ← hp]; clear hwa hp; go_wp2_with fail)
          | (go_at_call 26; refine Calls.mono HCR.out ?_; rintro e w1 ⟨A1, cap1, rfl, h1, g1, ha1⟩)
          | (go_at_call 21; refine Calls.mono (HEM.out (w1.alloc (.cells #[.slice A1 n cap1, .int .i64 u] 24)) (g1.alloc _)) ?_; rintro e w2 ⟨rfl, g2⟩; have g3 : Gr wa (w2.alloc (.cells #[.int .i64 0, .string (bs (sha []))] 26)) := ((g1.alloc _).trans g2).alloc _; have hq3 := ((Blk.new w1 24 #[.slice A1 n cap1, .int .i64 u]).gr g2).alloc (.cells #[.int .i64 0, .string (bs (sha []))] 26); have q03 : (w2.alloc (.cells #[.int .i64 0, .string (bs (sha []))] 26)).cell? ⟨w1.heap.size, 0, none⟩ = some (.slice A1 n cap1) := hq3.cell 0; have q13 : (w2.alloc (.cells #[.int .i64 0, .string (bs (sha []))] 26)).cell? ⟨w1.heap.size, 1, none⟩ = some (.int .i64 u) := hq3.cell 1; have h3 := ((h1.gr ((Gr.refl w1).alloc (.cells #[.slice A1 n cap1, .int .i64 u] 24))).gr g2).gr ((Gr.refl w2).alloc (.cells #[.int .i64 0, .string (bs (sha []))] 26)); have hh3 := Blk.new w2 26 #[.int .i64 0, .string (bs (sha []))])
          | (go_at_call 27; refine Calls.mono (HCH.out _ A1 cap1 g3 h3) ?_; rintro e w4 ⟨rfl, g4⟩; have hq4 := hq3.gr g4; have hh4 := hh3.gr g4; have h4 := h3.gr g4; have gg4 := g3.trans g4; have B4 := HB.out.gr gg4; have Z4 := HR2.out.gr gg4; have hsz1 : p + 1 < w1.heap.size := (HR2.out.gr g1).lt; have hsz2 : w1.heap.size < w2.heap.size := ((Blk.new w1 24 #[.slice A1 n cap1, .int .i64 u]).gr g2).lt; have q04 : w4.cell? ⟨w1.heap.size, 0, none⟩ = some (.slice A1 n cap1) := hq4.cell 0; have q14 : w4.cell? ⟨w1.heap.size, 1, none⟩ = some (.int .i64 u) := hq4.cell 1; have k04 : w4.cell? ⟨w2.heap.size, 0, none⟩ = some (.int .i64 0) := hh4.cell 0; have k14 : w4.cell? ⟨w2.heap.size, 1, none⟩ = some (.string (bs (sha []))) := hh4.cell 1)
          | (go_at_call 17; refine Calls.mono (HRE.out _) ?_; rintro e w5 ⟨rfl, g5⟩; have hh5 := hh4.gr g5; have k05 : w5.cell? ⟨w2.heap.size, 0, none⟩ = some (.int .i64 0) := hh5.cell 0; have k15 : w5.cell? ⟨w2.heap.size, 1, none⟩ = some (.string (bs (sha []))) := hh5.cell 1; have j05 : w5.frozen? ⟨w2.heap.size, 0, none⟩ = false := hh5.frozen 0; have j15 : w5.frozen? ⟨w2.heap.size, 1, none⟩ = false := hh5.frozen 1; have B5 := ((B4.gr g5).far (p := ⟨w2.heap.size, 0, none⟩) (by show p ≠ w2.heap.size; omega) (.int .i64 hz)).far (p := ⟨w2.heap.size, 1, none⟩) (by show p ≠ w2.heap.size; omega) (.string (bs hr)); have Z5 := ((Z4.gr g5).far (p := ⟨w2.heap.size, 0, none⟩) (by show p + 1 ≠ w2.heap.size; omega) (.int .i64 hz)).far (p := ⟨w2.heap.size, 1, none⟩) (by show p + 1 ≠ w2.heap.size; omega) (.string (bs hr)); have gg5 : Gr w ((w5.setCell ⟨w2.heap.size, 0, none⟩ (.int .i64 hz)).setCell ⟨w2.heap.size, 1, none⟩ (.string (bs hr))) := ((HG0.out.trans (gg4.trans g5)).setCell (p := ⟨w2.heap.size, 0, none⟩) (by show w.heap.size ≤ w2.heap.size; omega) _).setCell (p := ⟨w2.heap.size, 1, none⟩) (by show w.heap.size ≤ w2.heap.size; omega) _)
          | (refine wpList_load_blk rfl 28 (.tmp 2) rfl (g := p) rfl (B5) aggWit ?_)
          | (refine wpList_store_blk rfl 28 (.tmp 4) (.tmp 40) rfl (g := p + 1) (cs' := witA who key A n cap f sz r) rfl rfl (Z5) aggWit rfl (witA_one _ _ _ _ _ _ _ _) ?_; intro w9 h9 hg9))
          refine bodyPost_ret (results_blk_tmp rfl _ rfl h9 aggWit) rfl ?_
          have hgf := Gr.only (gg5) hg9 hwp
          exact ⟨A, cap, rfl, (HX0.out.gr hgf), hgf⟩
      · rw [if_neg hk0] at HWK
        rw [HWK.out]
        have m0 : (ke != 0) = true := by simpa using hk0
        have m7 : (ke != 7) = true := by simpa using hk7
        clear HWK
        go_enter Tryd.func7, Tryd.ntmps7
        go_wp2_with (first
        | (rw [← hwa, ← hp]; clear hwa hp; go_wp2_with fail)
        | (go_at_call 26; refine Calls.mono HCR.out ?_; rintro e w1 ⟨A1, cap1, rfl, h1, g1, ha1⟩)
        | (go_at_call 21; refine Calls.mono (HEM.out (w1.alloc (.cells #[.slice A1 n cap1, .int .i64 u] 24)) (g1.alloc _)) ?_; rintro e w2 ⟨rfl, g2⟩; have g3 : Gr wa (w2.alloc (.cells #[.int .i64 0, .string (bs (sha []))] 26)) := ((g1.alloc _).trans g2).alloc _; have hq3 := ((Blk.new w1 24 #[.slice A1 n cap1, .int .i64 u]).gr g2).alloc (.cells #[.int .i64 0, .string (bs (sha []))] 26); have q03 : (w2.alloc (.cells #[.int .i64 0, .string (bs (sha []))] 26)).cell? ⟨w1.heap.size, 0, none⟩ = some (.slice A1 n cap1) := hq3.cell 0; have q13 : (w2.alloc (.cells #[.int .i64 0, .string (bs (sha []))] 26)).cell? ⟨w1.heap.size, 1, none⟩ = some (.int .i64 u) := hq3.cell 1; have h3 := ((h1.gr ((Gr.refl w1).alloc (.cells #[.slice A1 n cap1, .int .i64 u] 24))).gr g2).gr ((Gr.refl w2).alloc (.cells #[.int .i64 0, .string (bs (sha []))] 26)); have hh3 := Blk.new w2 26 #[.int .i64 0, .string (bs (sha []))])
        | (go_at_call 27; refine Calls.mono (HCH.out _ A1 cap1 g3 h3) ?_; rintro e w4 ⟨rfl, g4⟩; have hq4 := hq3.gr g4; have hh4 := hh3.gr g4; have h4 := h3.gr g4; have gg4 := g3.trans g4; have B4 := HB.out.gr gg4; have Z4 := HR2.out.gr gg4; have hsz1 : p + 1 < w1.heap.size := (HR2.out.gr g1).lt; have hsz2 : w1.heap.size < w2.heap.size := ((Blk.new w1 24 #[.slice A1 n cap1, .int .i64 u]).gr g2).lt; have q04 : w4.cell? ⟨w1.heap.size, 0, none⟩ = some (.slice A1 n cap1) := hq4.cell 0; have q14 : w4.cell? ⟨w1.heap.size, 1, none⟩ = some (.int .i64 u) := hq4.cell 1; have k04 : w4.cell? ⟨w2.heap.size, 0, none⟩ = some (.int .i64 0) := hh4.cell 0; have k14 : w4.cell? ⟨w2.heap.size, 1, none⟩ = some (.string (bs (sha []))) := hh4.cell 1)
        | (refine wpList_load_blk rfl 28 (.tmp 2) rfl (g := p) rfl (B4) aggWit ?_)
        | (refine wpList_store_blk rfl 28 (.tmp 4) (.tmp 40) rfl (g := p + 1) (cs' := witA who key A n cap f sz r) rfl rfl (Z4) aggWit rfl (witA_one _ _ _ _ _ _ _ _) ?_; intro w9 h9 hg9))
        refine bodyPost_ret (results_blk_tmp rfl _ rfl h9 aggWit) rfl ?_
        have hgf := Gr.only (HG0.out.trans gg4) hg9 hwp
        exact ⟨A, cap, rfl, (HX0.out.gr hgf), hgf⟩
  · rw [if_neg he] at HWK
    rw [HWK.out]
    clear HWK
    unfold witA at hwa
    unfold witA
    go_enter Tryd.func7, Tryd.ntmps7
    go_wp2_with (first
      | (rw [← hwa, ← hp]; clear hwa hp; go_wp2_with fail)
      | (go_at_call 26; refine Calls.mono HCR.out ?_; rintro e w1 ⟨A1, cap1, rfl, h1, g1, ha1⟩; have B1 := (HB.out.gr g1).alloc (.cells #[.slice A1 n cap1, .int .i64 u] 24); have Z1 := (HR2.out.gr g1).alloc (.cells #[.slice A1 n cap1, .int .i64 u] 24))
      | (refine wpList_load_blk rfl 28 (.tmp 2) rfl (g := p) rfl B1 aggWit ?_)
      | (refine wpList_store_blk rfl 28 (.tmp 4) (.tmp 19) rfl (g := p + 1) (cs' := witA who key A n cap f sz r) rfl rfl Z1 aggWit rfl (witA_one _ _ _ _ _ _ _ _) ?_; intro w9 h9 hg9))
    refine bodyPost_ret (results_blk_tmp rfl _ rfl h9 aggWit) rfl ?_
    have hgf := Gr.only (HG0.out.trans (g1.alloc (.cells #[.slice A1 n cap1, .int .i64 u] 24))) hg9 hwp
    exact ⟨A, cap, rfl, (HX0.out.gr hgf), hgf⟩
end Go.Proofs.YtbhpglhmnpcnkaaDoor

namespace Go.Proofs.YtbhpglhmnpcnkaaDoor
open Go.RowKit
set_option linter.unusedVariables false

set_option maxRecDepth 100000 in
set_option maxHeartbeats 4000000 in
theorem rwake_any (fs : List Fl) (who : Int) (key : List UInt8) (A : Option Addr) (n cap : Nat) (f sz : Int) (r : List UInt8) (keep : Int) (w : World) (hn : n ≤ 1099511627776) (hx : FRow w A n fs) (hA : A = none → n = 0 ∧ cap = 0) (hs : ∀ f ∈ fs, f.1.length ≤ 1099511627776 ∧ f.2.1.length ≤ 1099511627776 ∧ f.2.2.length ≤ 1099511627776) :
    Calls Tryd.prog 9 #[.agg (witA who key A n cap f sz r), .int .i64 keep] w fun e w' => ∃ A' cap', e = .returned (.tuple #[.agg (witA who key A' n cap' (wakeR fs f keep sz r).2.1 (wakeR fs f keep sz r).2.2.1 (wakeR fs f keep sz r).2.2.2.1), .int .i64 (wakeR fs f keep sz r).2.2.2.2]) ∧ FRow w' A' n (wakeR fs f keep sz r).1 ∧ Gr w w' := by
  have hg0 := ((Gr.refl w).alloc (.cells (witA who key A n cap f sz r) 28)).alloc (.cells (witA 0 [] none 0 0 0 0 []) 28)
  have hb1 := (Blk.new w 28 (witA who key A n cap f sz r)).alloc (.cells (witA 0 [] none 0 0 0 0 []) 28)
  have hb2 := Blk.new1 w (.cells (witA who key A n cap f sz r) 28) 28 (witA 0 [] none 0 0 0 0 [])
  have hx1 := hx.gr hg0
  obtain ⟨wa, hwa⟩ : ∃ x, x = (w.alloc (.cells (witA who key A n cap f sz r) 28)).alloc (.cells (witA 0 [] none 0 0 0 0 []) 28) := ⟨_, rfl⟩
  rw [← hwa] at hg0 hb1 hb2 hx1
  obtain ⟨p, hp⟩ : ∃ p, p = w.heap.size := ⟨_, rfl⟩
  have hwp : w.heap.size ≤ p + 1 := by omega
  have hpw : w.heap.size ≤ p := by omega
  rw [← hp] at hb1 hb2
  have HCR := sec (rcrash_any fs A n cap f keep wa hn hx1 hA hs)
  have hcz := crash_sz (f := f) (keep := keep) hs
  obtain ⟨C, hC⟩ : ∃ C, C = crashR fs f keep := ⟨_, rfl⟩
  rw [← hC] at HCR hcz
  have HWK : Sec (wakeR fs f keep sz r = if C.2.2 = 0 then
    (if (chk C.1 seenB).2 = 7 then (C.1, C.2.1, 0, sha [], 0)
     else if (chk C.1 seenB).2 = 0 then
      (if (hdRd (chk C.1 seenB).1).2.2 = 0 then (C.1, C.2.1, (hdRd (chk C.1 seenB).1).1, (hdRd (chk C.1 seenB).1).2.1, 0) else (fs, f, sz, r, (hdRd (chk C.1 seenB).1).2.2))
     else (fs, f, sz, r, (chk C.1 seenB).2))
    else (fs, f, sz, r, C.2.2)) := sec (by rw [hC]; rfl)
  obtain ⟨gs, u, ec⟩ := C
  simp only at HWK hcz
  have HX := sec hx1
  have HX0 := sec hx
  have HCZ := sec hcz
  have HB := sec hb1
  have HR2 := sec hb2
  have HG0 := sec hg0
  have c2 : wa.cell? ⟨p, 2, none⟩ = some (.slice A n cap) := hb1.cell 2
  have c3 : wa.cell? ⟨p, 3, none⟩ = some (.int .i64 f) := hb1.cell 3
  clear hC hx hx1 hs hA hb1 hb2 hg0 hcz
  unfold diskV at HCR
  by_cases he : ec = 0
  · subst he
    rw [if_pos rfl] at HWK
    have HEM : Sec (∀ W, Calls Tryd.prog 22 #[] W fun e w' => e = .returned (.agg #[.int .i64 0, .string (bs (sha []))]) ∧ Gr W w') := sec (fun W => nohead_any W)
    have hkl := chk_len gs seenB
    have HCH : Sec (∀ W A1 cap1, Gr wa W → FRow W A1 n gs → Calls Tryd.prog 30 #[.agg #[.slice A1 n cap1, .int .i64 u], .string (bs seenB)] W fun e w' => e = .returned (.tuple #[.string (bs (chk gs seenB).1), .int .i64 (chk gs seenB).2]) ∧ Gr W w') := sec (fun W A1 cap1 g h => summed_any gs seenB A1 n cap1 u W hn h HCZ.out)
    obtain ⟨K, hK⟩ : ∃ K, K = chk gs seenB := ⟨_, rfl⟩
    rw [← hK] at HCH HWK hkl
    obtain ⟨kb, ke⟩ := K
    simp only at HWK HCH hkl
    have HRE : Sec (∀ W, Calls Tryd.prog 18 #[.string (bs kb)] W fun e w' => e = .returned (.tuple #[.agg (headC (hdRd kb).1 (hdRd kb).2.1), .int .i64 (hdRd kb).2.2]) ∧ Gr W w') := sec (fun W => rhread_any kb W (by omega))
    have h7 := hdRd_ne7 kb
    obtain ⟨HD, hHD⟩ : ∃ H, H = hdRd kb := ⟨_, rfl⟩
    rw [← hHD] at HRE HWK h7
    obtain ⟨hz, hr, hE⟩ := HD
    simp only at HWK HRE h7
    have hseen : bs seenB = bs [115, 101, 101, 110] := rfl
    rw [hseen] at HCH
    have HXB : Sec (∀ b off, A = some ⟨b, off, none⟩ → 0 < n → b < p) := sec (fun b off e h0 => by
      obtain ⟨b', off', e', hlt⟩ := Row.lt HX0.out h0 (by omega)
      rw [e] at e'
      injection e' with e'
      injection e' with e1 _
      rw [e1, hp]; exact hlt)
    have hpa : p + 1 < wa.heap.size := HR2.out.lt
    clear hK hHD hkl hseen
    unfold headC at HRE
    unfold witA at hwa
    unfold witA
    by_cases hk7 : ke = 7
    · subst hk7
      rw [if_pos rfl] at HWK
      rw [HWK.out]
      clear HWK HRE h7
      go_enter Tryd.func9, Tryd.ntmps9
      go_wp2_with (first
      | (rw [← hwa, ← hp]; clear hwa hp; go_wp2_with fail)
      | (go_at_call 29; refine Calls.mono HCR.out ?_; rintro e w1 ⟨A1, cap1, rfl, h1, g1, ha1⟩; have g3 : Gr wa (w1.alloc (.cells #[.slice A1 n cap1, .int .i64 u] 24)) := g1.alloc _; have hq3 := Blk.new w1 24 #[.slice A1 n cap1, .int .i64 u]; have h3 := h1.gr ((Gr.refl w1).alloc (.cells #[.slice A1 n cap1, .int .i64 u] 24)))
      | (go_at_call 30; refine Calls.mono (HCH.out _ A1 cap1 g3 h3) ?_; rintro e w4 ⟨rfl, g4⟩; have hq4 := hq3.gr g4; have h4 := h3.gr g4; have gg4 := g3.trans g4; have B4 := HB.out.gr gg4; have Z4 := HR2.out.gr gg4; have hsz1 : p + 1 < w1.heap.size := (HR2.out.gr g1).lt; have hsz2 : w1.heap.size < w4.heap.size := hq4.lt; have q04 : w4.cell? ⟨w1.heap.size, 0, none⟩ = some (.slice A1 n cap1) := hq4.cell 0; have q14 : w4.cell? ⟨w1.heap.size, 1, none⟩ = some (.int .i64 u) := hq4.cell 1)
)
      have g4d : Gr w4 w4.drew := (Gr.refl _).drew
      have HSK : Sec (∀ w', Gr w4 w' → w'.cell? ⟨w1.heap.size, 0, none⟩ = some (.slice A1 n cap1) ∧ w'.cell? ⟨w1.heap.size, 1, none⟩ = some (.int .i64 u) ∧ Gr w4 w') := sec (fun w' g => ⟨(hq4.gr g).cell 0, (hq4.gr g).cell 1, g⟩)
      have HB4 := sec B4
      go_region_with (go_at_call 22; refine Calls.mono (HEM.out _) ?_; rintro e w5 ⟨rfl, g5'⟩; have g5 : Gr w4 w5 := Gr.trans g4d g5'; obtain ⟨q05, q15, _⟩ := HSK.out w5 g5; have B' : Blk w5 p 28 #[.int .i64 who, .string (bs key), .slice A n cap, .int .i64 f, .int .i64 sz, .string (bs r)] := HB4.out.gr g5; have p2 : w5.cell? ⟨p, 2, none⟩ = some (.slice A n cap) := B'.cell 2; have p3 : w5.cell? ⟨p, 3, none⟩ = some (.int .i64 f) := B'.cell 3; have p4 : w5.cell? ⟨p, 4, none⟩ = some (.int .i64 sz) := B'.cell 4; have p5 : w5.cell? ⟨p, 5, none⟩ = some (.string (bs r)) := B'.cell 5; have z2 : w5.frozen? ⟨p, 2, none⟩ = false := B'.frozen 2; have z3 : w5.frozen? ⟨p, 3, none⟩ = false := B'.frozen 3; have z4 : w5.frozen? ⟨p, 4, none⟩ = false := B'.frozen 4; have z5 : w5.frozen? ⟨p, 5, none⟩ = false := B'.frozen 5)
      all_goals
        obtain ⟨BX, ZX⟩ := wake_set0 (n' := n) (A1 := A1) (cap1 := cap1) (u := u) (s2 := 0) (r2 := sha []) (HB4.out.gr g5) (Z4.gr g5)
        have gX : Gr w ((((w5.setCell ⟨p, 2, none⟩ (.slice A1 n cap1)).setCell ⟨p, 3, none⟩ (.int .i64 u)).setCell ⟨p, 4, none⟩ (.int .i64 0)).setCell ⟨p, 5, none⟩ (.string (bs (sha [])))) := (((((HG0.out.trans gg4).trans g5).setCell (p := ⟨p, 2, none⟩) hpw _).setCell (p := ⟨p, 3, none⟩) hpw _).setCell (p := ⟨p, 4, none⟩) hpw _).setCell (p := ⟨p, 5, none⟩) hpw _
        have hne := wake_row HXB.out hpa g1 h1 ha1
        have rX : FRow ((((w5.setCell ⟨p, 2, none⟩ (.slice A1 n cap1)).setCell ⟨p, 3, none⟩ (.int .i64 u)).setCell ⟨p, 4, none⟩ (.int .i64 0)).setCell ⟨p, 5, none⟩ (.string (bs (sha [])))) A1 n gs := wake_keep (wake_keep (wake_keep (wake_keep (h4.gr g5) (hne p (.inl rfl)) 2 _) (hne p (.inl rfl)) 3 _) (hne p (.inl rfl)) 4 _) (hne p (.inl rfl)) 5 _
        go_wp2_with (first
        | (refine wpList_load_blk rfl 28 (.tmp 2) rfl (g := p) rfl BX aggWit ?_)
        | (refine wpList_store_blk rfl 28 (.tmp 4) (.tmp 32) rfl (g := p + 1) (cs' := witA who key A1 n cap1 u 0 (sha [])) rfl rfl ZX aggWit rfl (witA_one _ _ _ _ _ _ _ _) ?_; intro w9 h9 hg9))
        refine bodyPost_ret (results_blk_tmp rfl _ rfl h9 aggWit) rfl ?_
        exact ⟨A1, cap1, rfl, Row.only rX hg9 (hne (p + 1) (.inr (.inl rfl))), Gr.only gX hg9 hwp⟩
    · rw [if_neg hk7] at HWK
      by_cases hk0 : ke = 0
      · subst hk0
        rw [if_pos rfl] at HWK
        by_cases hE0 : hE = 0
        · subst hE0
          rw [if_pos rfl] at HWK
          rw [HWK.out]
          clear HWK h7 hk7
          go_enter Tryd.func9, Tryd.ntmps9
          go_wp2_with (first
          | (rw [← hwa, ← hp]; clear hwa hp; go_wp2_with fail)
          | (go_at_call 29; refine Calls.mono HCR.out ?_; rintro e w1 ⟨A1, cap1, rfl, h1, g1, ha1⟩; have g3 : Gr wa (w1.alloc (.cells #[.slice A1 n cap1, .int .i64 u] 24)) := g1.alloc _; have hq3 := Blk.new w1 24 #[.slice A1 n cap1, .int .i64 u]; have h3 := h1.gr ((Gr.refl w1).alloc (.cells #[.slice A1 n cap1, .int .i64 u] 24)))
          | (go_at_call 30; refine Calls.mono (HCH.out _ A1 cap1 g3 h3) ?_; rintro e w4 ⟨rfl, g4⟩; have hq4 := hq3.gr g4; have h4 := h3.gr g4; have gg4 := g3.trans g4; have B4 := HB.out.gr gg4; have Z4 := HR2.out.gr gg4; have hsz1 : p + 1 < w1.heap.size := (HR2.out.gr g1).lt; have hsz2 : w1.heap.size < w4.heap.size := hq4.lt; have q04 : w4.cell? ⟨w1.heap.size, 0, none⟩ = some (.slice A1 n cap1) := hq4.cell 0; have q14 : w4.cell? ⟨w1.heap.size, 1, none⟩ = some (.int .i64 u) := hq4.cell 1)
          | (go_at_call 18; refine Calls.mono (HRE.out _) ?_; rintro e w5 ⟨rfl, g5⟩; have g45 : Gr w4 w5 := ((Gr.refl w4).alloc (.cells #[.int .i64 0, .string (bs [])] 26)).trans g5; have hh5 := (Blk.new w4 26 #[.int .i64 0, .string (bs [])]).gr g5; have k05 : w5.cell? ⟨w4.heap.size, 0, none⟩ = some (.int .i64 0) := hh5.cell 0; have k15 : w5.cell? ⟨w4.heap.size, 1, none⟩ = some (.string (bs [])) := hh5.cell 1; have j05 : w5.frozen? ⟨w4.heap.size, 0, none⟩ = false := hh5.frozen 0; have j15 : w5.frozen? ⟨w4.heap.size, 1, none⟩ = false := hh5.frozen 1; have B5 := ((B4.gr g45).far (p := ⟨w4.heap.size, 0, none⟩) (by show p ≠ w4.heap.size; omega) (.int .i64 hz)).far (p := ⟨w4.heap.size, 1, none⟩) (by show p ≠ w4.heap.size; omega) (.string (bs hr)); have Z5 := ((Z4.gr g45).far (p := ⟨w4.heap.size, 0, none⟩) (by show p + 1 ≠ w4.heap.size; omega) (.int .i64 hz)).far (p := ⟨w4.heap.size, 1, none⟩) (by show p + 1 ≠ w4.heap.size; omega) (.string (bs hr)); have gg5 : Gr w ((w5.setCell ⟨w4.heap.size, 0, none⟩ (.int .i64 hz)).setCell ⟨w4.heap.size, 1, none⟩ (.string (bs hr))) := ((HG0.out.trans (gg4.trans g45)).setCell (p := ⟨w4.heap.size, 0, none⟩) (by show w.heap.size ≤ w4.heap.size; omega) _).setCell (p := ⟨w4.heap.size, 1, none⟩) (by show w.heap.size ≤ w4.heap.size; omega) _))
          have hne := wake_row HXB.out hpa g1 h1 ha1
          have hws : w1.heap.size ≤ w4.heap.size := by omega
          have r5 : FRow ((w5.setCell ⟨w4.heap.size, 0, none⟩ (.int .i64 hz)).setCell ⟨w4.heap.size, 1, none⟩ (.string (bs hr))) A1 n gs := wake_keep (wake_keep (h4.gr g45) (hne _ (.inr (.inr hws))) 0 _) (hne _ (.inr (.inr hws))) 1 _
          have Q5 := ((hq4.gr g45).far (p := ⟨w4.heap.size, 0, none⟩) (by show w1.heap.size ≠ w4.heap.size; omega) (.int .i64 hz)).far (p := ⟨w4.heap.size, 1, none⟩) (by show w1.heap.size ≠ w4.heap.size; omega) (.string (bs hr))
          have H5 := (hh5.set_ 0 (.int .i64 hz)).set_ 1 (.string (bs hr))
          clear hne hws
          obtain ⟨wv, hwv⟩ : ∃ x, x = (w5.setCell ⟨w4.heap.size, 0, none⟩ (.int .i64 hz)).setCell ⟨w4.heap.size, 1, none⟩ (.string (bs hr)) := ⟨_, rfl⟩
          rw [← hwv] at r5 Q5 H5 B5 Z5 gg5
          rw [← hwv]
          have q0v : wv.cell? ⟨w1.heap.size, 0, none⟩ = some (.slice A1 n cap1) := Q5.cell 0
          have q1v : wv.cell? ⟨w1.heap.size, 1, none⟩ = some (.int .i64 u) := Q5.cell 1
          have h0v : wv.cell? ⟨w4.heap.size, 0, none⟩ = some (.int .i64 hz) := H5.cell 0
          have h1v : wv.cell? ⟨w4.heap.size, 1, none⟩ = some (.string (bs hr)) := H5.cell 1
          clear hwv
          have B' : Blk wv p 28 #[.int .i64 who, .string (bs key), .slice A n cap, .int .i64 f, .int .i64 sz, .string (bs r)] := B5
          have p2 : wv.cell? ⟨p, 2, none⟩ = some (.slice A n cap) := B'.cell 2
          have p3 : wv.cell? ⟨p, 3, none⟩ = some (.int .i64 f) := B'.cell 3
          have p4 : wv.cell? ⟨p, 4, none⟩ = some (.int .i64 sz) := B'.cell 4
          have p5 : wv.cell? ⟨p, 5, none⟩ = some (.string (bs r)) := B'.cell 5
          have z2 : wv.frozen? ⟨p, 2, none⟩ = false := B'.frozen 2
          have z3 : wv.frozen? ⟨p, 3, none⟩ = false := B'.frozen 3
          have z4 : wv.frozen? ⟨p, 4, none⟩ = false := B'.frozen 4
          have z5 : wv.frozen? ⟨p, 5, none⟩ = false := B'.frozen 5
          go_region
          obtain ⟨BX, ZX⟩ := wake_set (n' := n) (A1 := A1) (cap1 := cap1) (u := u) (s2 := hz) (r2 := hr) B5 Z5
          have gX : Gr w ((((wv.setCell ⟨p, 2, none⟩ (.slice A1 n cap1)).setCell ⟨p, 3, none⟩ (.int .i64 u)).setCell ⟨p, 4, none⟩ (.int .i64 hz)).setCell ⟨p, 5, none⟩ (.string (bs hr))).drew := (((((gg5).setCell (p := ⟨p, 2, none⟩) hpw _).setCell (p := ⟨p, 3, none⟩) hpw _).setCell (p := ⟨p, 4, none⟩) hpw _).setCell (p := ⟨p, 5, none⟩) hpw _).drew
          have hne := wake_row HXB.out hpa g1 h1 ha1
          have rX : FRow ((((wv.setCell ⟨p, 2, none⟩ (.slice A1 n cap1)).setCell ⟨p, 3, none⟩ (.int .i64 u)).setCell ⟨p, 4, none⟩ (.int .i64 hz)).setCell ⟨p, 5, none⟩ (.string (bs hr))).drew A1 n gs := FRow.gr (wake_keep (wake_keep (wake_keep (wake_keep r5 (hne p (.inl rfl)) 2 _) (hne p (.inl rfl)) 3 _) (hne p (.inl rfl)) 4 _) (hne p (.inl rfl)) 5 _) (Gr.refl _).drew
          go_wp2_with (first
          | (refine wpList_load_blk rfl 28 (.tmp 2) rfl (g := p) rfl BX aggWit ?_)
          | (refine wpList_store_blk rfl 28 (.tmp 4) (.tmp 48) rfl (g := p + 1) (cs' := witA who key A1 n cap1 u hz hr) rfl rfl ZX aggWit rfl (witA_one _ _ _ _ _ _ _ _) ?_; intro w9 h9 hg9))
          refine bodyPost_ret (results_blk_tmp rfl _ rfl h9 aggWit) rfl ?_
          exact ⟨A1, cap1, rfl, Row.only rX hg9 (hne (p + 1) (.inr (.inl rfl))), Gr.only gX hg9 hwp⟩
        · rw [if_neg hE0] at HWK
          rw [HWK.out]
          have m0 : (hE != 0) = true := by simpa using hE0
          have m7 : (hE != 7) = true := by simpa using h7
          clear HWK hk7
          go_enter Tryd.func9, Tryd.ntmps9
          go_wp2_with (first
          | (rw [← hwa, ← hp]; clear hwa hp; go_wp2_with fail)
          | (go_at_call 29; refine Calls.mono HCR.out ?_; rintro e w1 ⟨A1, cap1, rfl, h1, g1, ha1⟩; have g3 : Gr wa (w1.alloc (.cells #[.slice A1 n cap1, .int .i64 u] 24)) := g1.alloc _; have hq3 := Blk.new w1 24 #[.slice A1 n cap1, .int .i64 u]; have h3 := h1.gr ((Gr.refl w1).alloc (.cells #[.slice A1 n cap1, .int .i64 u] 24)))
          | (go_at_call 30; refine Calls.mono (HCH.out _ A1 cap1 g3 h3) ?_; rintro e w4 ⟨rfl, g4⟩; have hq4 := hq3.gr g4; have h4 := h3.gr g4; have gg4 := g3.trans g4; have B4 := HB.out.gr gg4; have Z4 := HR2.out.gr gg4; have hsz1 : p + 1 < w1.heap.size := (HR2.out.gr g1).lt; have hsz2 : w1.heap.size < w4.heap.size := hq4.lt; have q04 : w4.cell? ⟨w1.heap.size, 0, none⟩ = some (.slice A1 n cap1) := hq4.cell 0; have q14 : w4.cell? ⟨w1.heap.size, 1, none⟩ = some (.int .i64 u) := hq4.cell 1)
          | (go_at_call 18; refine Calls.mono (HRE.out _) ?_; rintro e w5 ⟨rfl, g5⟩; have g45 : Gr w4 w5 := ((Gr.refl w4).alloc (.cells #[.int .i64 0, .string (bs [])] 26)).trans g5; have hh5 := (Blk.new w4 26 #[.int .i64 0, .string (bs [])]).gr g5; have k05 : w5.cell? ⟨w4.heap.size, 0, none⟩ = some (.int .i64 0) := hh5.cell 0; have k15 : w5.cell? ⟨w4.heap.size, 1, none⟩ = some (.string (bs [])) := hh5.cell 1; have j05 : w5.frozen? ⟨w4.heap.size, 0, none⟩ = false := hh5.frozen 0; have j15 : w5.frozen? ⟨w4.heap.size, 1, none⟩ = false := hh5.frozen 1; have B5 := ((B4.gr g45).far (p := ⟨w4.heap.size, 0, none⟩) (by show p ≠ w4.heap.size; omega) (.int .i64 hz)).far (p := ⟨w4.heap.size, 1, none⟩) (by show p ≠ w4.heap.size; omega) (.string (bs hr)); have Z5 := ((Z4.gr g45).far (p := ⟨w4.heap.size, 0, none⟩) (by show p + 1 ≠ w4.heap.size; omega) (.int .i64 hz)).far (p := ⟨w4.heap.size, 1, none⟩) (by show p + 1 ≠ w4.heap.size; omega) (.string (bs hr)); have gg5 : Gr w ((w5.setCell ⟨w4.heap.size, 0, none⟩ (.int .i64 hz)).setCell ⟨w4.heap.size, 1, none⟩ (.string (bs hr))) := ((HG0.out.trans (gg4.trans g45)).setCell (p := ⟨w4.heap.size, 0, none⟩) (by show w.heap.size ≤ w4.heap.size; omega) _).setCell (p := ⟨w4.heap.size, 1, none⟩) (by show w.heap.size ≤ w4.heap.size; omega) _)
          | (refine wpList_load_blk rfl 28 (.tmp 2) rfl (g := p) rfl (B5) aggWit ?_)
          | (refine wpList_store_blk rfl 28 (.tmp 4) (.tmp 42) rfl (g := p + 1) (cs' := witA who key A n cap f sz r) rfl rfl (Z5) aggWit rfl (witA_one _ _ _ _ _ _ _ _) ?_; intro w9 h9 hg9))
          refine bodyPost_ret (results_blk_tmp rfl _ rfl h9 aggWit) rfl ?_
          have hgf := Gr.only (gg5) hg9 hwp
          exact ⟨A, cap, rfl, (HX0.out.gr hgf), hgf⟩
      · rw [if_neg hk0] at HWK
        rw [HWK.out]
        have m0 : (ke != 0) = true := by simpa using hk0
        have m7 : (ke != 7) = true := by simpa using hk7
        clear HWK
        go_enter Tryd.func9, Tryd.ntmps9
        go_wp2_with (first
        | (rw [← hwa, ← hp]; clear hwa hp; go_wp2_with fail)
        | (go_at_call 29; refine Calls.mono HCR.out ?_; rintro e w1 ⟨A1, cap1, rfl, h1, g1, ha1⟩; have g3 : Gr wa (w1.alloc (.cells #[.slice A1 n cap1, .int .i64 u] 24)) := g1.alloc _; have hq3 := Blk.new w1 24 #[.slice A1 n cap1, .int .i64 u]; have h3 := h1.gr ((Gr.refl w1).alloc (.cells #[.slice A1 n cap1, .int .i64 u] 24)))
        | (go_at_call 30; refine Calls.mono (HCH.out _ A1 cap1 g3 h3) ?_; rintro e w4 ⟨rfl, g4⟩; have hq4 := hq3.gr g4; have h4 := h3.gr g4; have gg4 := g3.trans g4; have B4 := HB.out.gr gg4; have Z4 := HR2.out.gr gg4; have hsz1 : p + 1 < w1.heap.size := (HR2.out.gr g1).lt; have hsz2 : w1.heap.size < w4.heap.size := hq4.lt; have q04 : w4.cell? ⟨w1.heap.size, 0, none⟩ = some (.slice A1 n cap1) := hq4.cell 0; have q14 : w4.cell? ⟨w1.heap.size, 1, none⟩ = some (.int .i64 u) := hq4.cell 1)
        | (refine wpList_load_blk rfl 28 (.tmp 2) rfl (g := p) rfl (B4.alloc (.cells #[.int .i64 0, .string (bs [])] 26)) aggWit ?_)
        | (refine wpList_store_blk rfl 28 (.tmp 4) (.tmp 42) rfl (g := p + 1) (cs' := witA who key A n cap f sz r) rfl rfl (Z4.alloc (.cells #[.int .i64 0, .string (bs [])] 26)) aggWit rfl (witA_one _ _ _ _ _ _ _ _) ?_; intro w9 h9 hg9))
        refine bodyPost_ret (results_blk_tmp rfl _ rfl h9 aggWit) rfl ?_
        have hgf := Gr.only ((HG0.out.trans gg4).alloc (.cells #[.int .i64 0, .string (bs [])] 26)) hg9 hwp
        exact ⟨A, cap, rfl, (HX0.out.gr hgf), hgf⟩
  · rw [if_neg he] at HWK
    rw [HWK.out]
    clear HWK
    unfold witA at hwa
    unfold witA
    go_enter Tryd.func9, Tryd.ntmps9
    go_wp2_with (first
    | (rw [← hwa, ← hp]; clear hwa hp; go_wp2_with fail)
    | (go_at_call 29; refine Calls.mono HCR.out ?_; rintro e w1 ⟨A1, cap1, rfl, h1, g1, ha1⟩; have B1 := (HB.out.gr g1).alloc (.cells #[.slice A1 n cap1, .int .i64 u] 24); have Z1 := (HR2.out.gr g1).alloc (.cells #[.slice A1 n cap1, .int .i64 u] 24))
    | (refine wpList_load_blk rfl 28 (.tmp 2) rfl (g := p) rfl B1 aggWit ?_)
    | (refine wpList_store_blk rfl 28 (.tmp 4) (.tmp 19) rfl (g := p + 1) (cs' := witA who key A n cap f sz r) rfl rfl Z1 aggWit rfl (witA_one _ _ _ _ _ _ _ _) ?_; intro w9 h9 hg9))
    refine bodyPost_ret (results_blk_tmp rfl _ rfl h9 aggWit) rfl ?_
    have hgf := Gr.only (HG0.out.trans (g1.alloc (.cells #[.slice A1 n cap1, .int .i64 u] 24))) hg9 hwp
    exact ⟨A, cap, rfl, (HX0.out.gr hgf), hgf⟩
end Go.Proofs.YtbhpglhmnpcnkaaDoor

namespace Go.Proofs.YtbhpglhmnpcnkaaDoor
set_option maxRecDepth 100000
open Go.RowKit Go.ChangeShapes Go.WideShapes
set_option linter.unusedVariables false

set_option maxHeartbeats 4000000 in
theorem copyWit_any (fs : List Fl) (who : Int) (key : List UInt8) (A : Option Addr) (n cap : Nat) (f sz : Int) (r : List UInt8) (w : World) (hn : n ≤ 1099511627776) (hx : FRow w A n fs) (hA : A = none → n = 0 ∧ cap = 0) :
    Calls Tryd.prog 8 #[.agg (witA who key A n cap f sz r)] w fun e w' => ∃ A' cap', e = .returned (.agg (witA who key A' n cap' f sz r)) ∧ FRow w' A' n fs ∧ (A' = none → n = 0 ∧ cap' = 0) ∧ Gr w w' := by
  have hg0 := ((Gr.refl w).alloc (.cells (witA who key A n cap f sz r) 28)).alloc (.cells (witA 0 [] none 0 0 0 0 []) 28)
  have hb1 := (Blk.new w 28 (witA who key A n cap f sz r)).alloc (.cells (witA 0 [] none 0 0 0 0 []) 28)
  have hb2 := Blk.new1 w (.cells (witA who key A n cap f sz r) 28) 28 (witA 0 [] none 0 0 0 0 [])
  have hx1 := hx.gr hg0
  obtain ⟨wa, hwa⟩ : ∃ x, x = (w.alloc (.cells (witA who key A n cap f sz r) 28)).alloc (.cells (witA 0 [] none 0 0 0 0 []) 28) := ⟨_, rfl⟩
  rw [← hwa] at hg0 hb1 hb2 hx1
  obtain ⟨p, hp⟩ : ∃ p, p = w.heap.size := ⟨_, rfl⟩
  have hwp : w.heap.size ≤ p + 1 := by omega
  have hpw : w.heap.size ≤ p := by omega
  rw [← hp] at hb1 hb2
  have HCP := sec (copyDisk_any fs A n cap f wa hn hx1 hA)
  have HB := sec hb1
  have HR2 := sec hb2
  have HG0 := sec hg0
  have c2 : wa.cell? ⟨p, 2, none⟩ = some (.slice A n cap) := hb1.cell 2
  have c3 : wa.cell? ⟨p, 3, none⟩ = some (.int .i64 f) := hb1.cell 3
  have hpa : p + 1 < wa.heap.size := hb2.lt
  clear hx hx1 hA hb1 hb2 hg0
  unfold diskV at HCP
  unfold witA at hwa
  unfold witA
  go_enter Tryd.func8, Tryd.ntmps8
  go_wp2_with (first
  | (rw [← hwa, ← hp]; clear hwa hp; go_wp2_with fail)
  | (go_at_call 28; refine Calls.mono HCP.out ?_; rintro e w4 ⟨A1, cap1, rfl, ho, hA1, g4⟩; have B4 : Blk w4 p 28 #[.int .i64 who, .string (bs key), .slice A n cap, .int .i64 f, .int .i64 sz, .string (bs r)] := HB.out.gr g4; have Z4 := HR2.out.gr g4; have p2 : w4.cell? ⟨p, 2, none⟩ = some (.slice A n cap) := B4.cell 2; have p3 : w4.cell? ⟨p, 3, none⟩ = some (.int .i64 f) := B4.cell 3; have z2 : w4.frozen? ⟨p, 2, none⟩ = false := B4.frozen 2; have z3 : w4.frozen? ⟨p, 3, none⟩ = false := B4.frozen 3; have BX : Blk ((w4.setCell ⟨p, 2, none⟩ (.slice A1 n cap1)).setCell ⟨p, 3, none⟩ (.int .i64 f)) p 28 (witA who key A1 n cap1 f sz r) := (B4.set_ 2 _).set_ 3 _; have ZX := (Z4.far (p := ⟨p, 2, none⟩) (by show p + 1 ≠ p; omega) (.slice A1 n cap1)).far (p := ⟨p, 3, none⟩) (by show p + 1 ≠ p; omega) (.int .i64 f))
  | (refine wpList_load_blk rfl 28 (.tmp 1) rfl (g := p) rfl BX aggWit ?_)
  | (refine wpList_store_blk rfl 28 (.tmp 2) (.tmp 7) rfl (g := p + 1) (cs' := witA who key A1 n cap1 f sz r) rfl rfl ZX aggWit rfl (witA_one _ _ _ _ _ _ _ _) ?_; intro w9 h9 hg9))
  refine bodyPost_ret (results_blk rfl _ rfl h9 aggWit) rfl ?_
  have hne : ∀ q, q < wa.heap.size → (Value.slice A1 n cap1).ownBlock ≠ some q := fun q hq e => by have := (ho.lt _ e).1; omega
  have ho2 := ownsRow_setCell_other (ownsRow_setCell_other ho (a := ⟨p, 2, none⟩) (hne p (by omega)) (.slice A1 n cap1)) (a := ⟨p, 3, none⟩) (hne p (by omega)) (.int .i64 f)
  have hr2 : FRow _ A1 n fs := Row.own ho2
  refine ⟨A1, cap1, rfl, Row.only hr2 hg9 (fun h0 b off e => ?_), hA1, Gr.only (((HG0.out.trans g4).setCell (p := ⟨p, 2, none⟩) hpw _).setCell (p := ⟨p, 3, none⟩) hpw _) hg9 hwp⟩
  have := (ho.lt b (by rw [e]; rfl)).1
  omega
set_option maxHeartbeats 4000000 in
theorem sameWitG_any (fs : List Fl) (who : Int) (key : List UInt8) (A A' : Option Addr) (n cap cap' : Nat) (f sz : Int) (r : List UInt8) (w : World) (hn : n ≤ 140737488355328) (hx : FRow w A n fs) (hy : FRow w A' n fs) :
    Calls Tryd.prog 10 #[.agg (witA who key A n cap f sz r), .agg (witA who key A' n cap' f sz r)] w fun e w' => e = .returned (.bool true) ∧ Gr w w' := by
  have hg0 := ((Gr.refl w).alloc (.cells (witA who key A n cap f sz r) 28)).alloc (.cells (witA who key A' n cap' f sz r) 28)
  have HD := sec (sameDisk_any fs A A' n cap cap' f _ hn (hx.gr hg0) (hy.gr hg0))
  have HG := sec hg0
  clear hx hy hg0
  unfold diskV witA at HD
  unfold witA at HG
  unfold witA
  go_enter Tryd.func10, Tryd.ntmps10
  go_wp2_with (go_at_call 31; refine Calls.mono HD.out ?_; rintro e w1 ⟨rfl, g1⟩)
  go_ret
  exact ⟨rfl, HG.out.trans g1⟩
theorem opens_headD (w : World) : Opens w 26 2 (fun cs (x : Int × List UInt8) => cs = [.int .i64 x.1, .string (bs x.2)] ∧ -9223372036854775808 ≤ x.1 ∧ x.1 ≤ 9223372036854775807) (fun x => x.2.length) :=
  (opens_struct Tryd.underlying26 (by kernel_rfl) (opensF_cons rfl (opens_int Tryd.underlying3 (by kernel_rfl) w) (opensF_cons rfl (opens_string Tryd.underlying9 (by kernel_rfl) w) (opensF_nil w 2)))).map
    (fun a => (a.1, a.2.1)) (by
      rintro cs ⟨n, r, _⟩ ⟨c1, c2, rfl, _, h1, d1, d2, rfl, _, h2, h3⟩
      obtain ⟨h1, h1'⟩ := h1
      simp only [strR] at h1 h2
      simp only [nilR] at h3
      subst h1
      subst h2
      subst h3
      exact ⟨rfl, h1'⟩) (by intro a; simp only; omega)
theorem opens_witness (w : World) : Opens w 28 6 (fun cs (x : Int × List UInt8 × (List Fl × Int) × (Int × List UInt8)) => ∃ A c, cs = [.int .i64 x.1, .string (bs x.2.1), .slice A x.2.2.1.1.length c, .int .i64 x.2.2.1.2, .int .i64 x.2.2.2.1, .string (bs x.2.2.2.2)] ∧ sliceR w 3 (fun cs (x : Fl) => cs = fileC x) [.slice A x.2.2.1.1.length c] x.2.2.1.1 ∧ -9223372036854775808 ≤ x.2.2.1.2 ∧ x.2.2.1.2 ≤ 9223372036854775807) (fun x => x.2.1.length + szs szFile x.2.2.1.1 + x.2.2.2.2.length) :=
  (opens_struct Tryd.underlying28 (by kernel_rfl) (opensF_cons rfl (opens_int Tryd.underlying3 (by kernel_rfl) w) (opensF_cons rfl (opens_string Tryd.underlying9 (by kernel_rfl) w) (opensF_cons rfl (opens_disk w) (opensF_cons rfl (opens_headD w) (opensF_nil w 6)))))).map
    (fun a => (a.1, a.2.1, a.2.2.1, a.2.2.2.1)) (by
      rintro cs ⟨n, k, ⟨fs, f⟩, ⟨sz, r⟩, _⟩ ⟨c1, c2, rfl, _, h1, d1, d2, rfl, _, h2, e1, e2, rfl, _, h3, f1, f2, rfl, _, h4, h5⟩
      obtain ⟨h1, h1'⟩ := h1
      obtain ⟨A, c, h3, hR, hf⟩ := h3
      obtain ⟨h4, h4'⟩ := h4
      simp only [strR] at h1 h2 h3 h4
      simp only [nilR] at h5
      subst h1
      subst h2
      subst h3
      subst h4
      subst h5
      exact ⟨A, c, rfl, hR, hf⟩) (by intro a; simp only; omega)
/-- what is known of a witness that came in -/
theorem open_witness {w : World} {r : Reach} {base : Nat} {H : Type} {enc : TypeId × Value → H} {v : Value} {d : DataW H} {p : List MemPlace}
    (hv : Value.okWide Tryd.prog w r base 28 v) (hd : DataW.Trod enc Tryd.prog w 0 (fun _ => true) true 28 v d p) (hb : Rows.uptoBulk d ≤ 1048576) :
    ∃ who key A c fs f sz rt, v = .agg (witA who key A fs.length c f sz rt) ∧ DiskIn w A c fs f := by
  obtain ⟨cs, ⟨who, key, ⟨fs, f⟩, sz, rt⟩, rfl, ⟨A, c, hc, hR, hf⟩, hs⟩ := open_structD_arg Tryd.underlying28 (opens_witness w) hv hd
  simp only at hc hR hf hs
  obtain ⟨A', c', e', h1, h2, hrow⟩ := sliceR_row fileC (fun _ => rfl) (by omega) (fun ci x h => h) hR
  simp only [List.cons.injEq, and_true, Value.slice.injEq, true_and] at e'
  obtain ⟨rfl, rfl⟩ := e'
  obtain ⟨A2, c2, e2, _, h3, _⟩ := hR
  simp only [List.cons.injEq, and_true, Value.slice.injEq, true_and] at e2
  obtain ⟨rfl, rfl⟩ := e2
  have hl := szs_len szFile (fun x => by unfold szFile; omega) fs
  refine ⟨who, key, A, c, fs, f, sz, rt, ?_, ⟨hrow, by omega, fun x hx => ?_, fun h => ?_, hf, h1⟩⟩
  · unfold witA
    congr 1
    exact Array.toList_inj.1 hc
  · have := szs_mem szFile hx
    unfold szFile at this hs
    refine ⟨?_, ?_, ?_⟩ <;> omega
  · have := h3.2 h
    omega
end Go.Proofs.YtbhpglhmnpcnkaaDoor

namespace Go.Proofs.YtbhpglhmnpcnkaaDoor
set_option maxRecDepth 100000
open Go.RowKit
set_option linter.unusedVariables false

set_option maxHeartbeats 4000000 in
theorem nodeWakes_walk (who : Int) (key : List UInt8) (A : Option Addr) (cap : Nat) (fs : List Fl) (f sz : Int) (r : List UInt8) (keep : Int) (W : World) (hd : DiskIn W A cap fs f) (_hk : -9223372036854775808 ≤ keep ∧ keep ≤ 9223372036854775807) (hT : TabK W) :
    Calls Tryd.prog 3 #[.agg (witA who key A fs.length cap f sz r), .int .i64 keep] W fun e W' => e = .returned (.bool true) ∧ Gr W W' := by
  obtain ⟨hrow, hlen, hsize, hnil, hfuse, _⟩ := hd
  have hs : ∀ f ∈ fs, f.1.length ≤ 1099511627776 ∧ f.2.1.length ≤ 1099511627776 ∧ f.2.2.length ≤ 1099511627776 := fun x hx => by have := hsize x hx; omega
  obtain ⟨n, hn⟩ : ∃ n, n = fs.length := ⟨_, rfl⟩
  rw [← hn] at hrow hlen hnil
  rw [← hn]
  have hn40 : n ≤ 1099511627776 := by omega
  have hg0 := (Gr.refl W).alloc (.cells (witA who key A n cap f sz r) 28)
  have hb1 := Blk.new W 28 (witA who key A n cap f sz r)
  have hrow1 := hrow.gr hg0
  have hT1 := hT.gr hg0
  obtain ⟨wa, hwa⟩ : ∃ x, x = W.alloc (.cells (witA who key A n cap f sz r) 28) := ⟨_, rfl⟩
  rw [← hwa] at hg0 hb1 hrow1 hT1
  obtain ⟨p, hp⟩ : ∃ p, p = W.heap.size := ⟨_, rfl⟩
  rw [← hp] at hb1
  obtain ⟨R, hR⟩ : ∃ R, R = wakeR fs f keep sz r := ⟨_, rfl⟩
  have HCp : Sec (∀ w, Gr wa w → Calls Tryd.prog 8 #[.agg (witA who key A n cap f sz r)] w fun e w' => ∃ A' cap', e = .returned (.agg (witA who key A' n cap' f sz r)) ∧ FRow w' A' n fs ∧ (A' = none → n = 0 ∧ cap' = 0) ∧ Gr w w') := sec (fun w g => copyWit_any fs who key A n cap f sz r w hn40 (hrow1.gr g) hnil)
  have HWk : Sec (∀ w A' cap', Gr wa w → FRow w A' n fs → (A' = none → n = 0 ∧ cap' = 0) → Calls Tryd.prog 7 #[.agg (witA who key A' n cap' f sz r), .int .i64 keep] w fun e w' => ∃ A2 cap2, e = .returned (.tuple #[.agg (witA who key A2 n cap2 R.2.1 R.2.2.1 R.2.2.2.1), .int .i64 R.2.2.2.2]) ∧ FRow w' A2 n R.1 ∧ Gr w w') := sec (fun w A' cap' g h hA => by
    rw [hR]; exact wake_any fs who key A' n cap' f sz r keep w hn40 h hA hs (hT1.gr g))
  have HRw : Sec (∀ w, Gr wa w → Calls Tryd.prog 9 #[.agg (witA who key A n cap f sz r), .int .i64 keep] w fun e w' => ∃ A2 cap2, e = .returned (.tuple #[.agg (witA who key A2 n cap2 R.2.1 R.2.2.1 R.2.2.2.1), .int .i64 R.2.2.2.2]) ∧ FRow w' A2 n R.1 ∧ Gr w w') := sec (fun w g => by
    rw [hR]; exact rwake_any fs who key A n cap f sz r keep w hn40 (hrow1.gr g) hnil hs)
  obtain ⟨gs, u, s2, r2, e2⟩ := R
  have HSw : Sec (∀ w A1 cap1 A2 cap2, FRow w A1 n gs → FRow w A2 n gs → Calls Tryd.prog 10 #[.agg (witA who key A1 n cap1 u s2 r2), .agg (witA who key A2 n cap2 u s2 r2)] w fun e w' => e = .returned (.bool true) ∧ Gr w w') := sec (fun w A1 cap1 A2 cap2 h1 h2 => sameWitG_any gs who key A1 A2 n cap1 cap2 u s2 r2 w (by omega) h1 h2)
  have HNd : Sec (∀ w, Gr wa w → Calls Tryd.prog 11 #[] w fun e w' => e = .returned (.bool true) ∧ Gr w w') := sec (fun w g => nodes_any w (hT1.gr g))
  have HB : Sec (Blk wa p 28 #[.int .i64 who, .string (bs key), .slice A n cap, .int .i64 f, .int .i64 sz, .string (bs r)]) := sec hb1
  have c0 : wa.cell? ⟨p, 0, none⟩ = some (.int .i64 who) := HB.out.cell 0
  have c1 : wa.cell? ⟨p, 1, none⟩ = some (.string (bs key)) := HB.out.cell 1
  have c2 : wa.cell? ⟨p, 2, none⟩ = some (.slice A n cap) := HB.out.cell 2
  have c3 : wa.cell? ⟨p, 3, none⟩ = some (.int .i64 f) := HB.out.cell 3
  have c4 : wa.cell? ⟨p, 4, none⟩ = some (.int .i64 sz) := HB.out.cell 4
  have c5 : wa.cell? ⟨p, 5, none⟩ = some (.string (bs r)) := HB.out.cell 5
  clear hs hsize hrow hrow1 hb1 hnil hn hlen hR hT hT1 hfuse
  unfold witA at HCp HWk HRw HSw hwa
  unfold witA
  go_enter Tryd.func3, Tryd.ntmps3
  go_wp2_with (first
    | (rw [← hwa, ← hp]; clear hwa hp; go_wp2_with fail)
    | (go_at_call 8; refine Calls.mono (HCp.out _ (Gr.refl _)) ?_; rintro e w1 ⟨A1, cap1, rfl, h1, hA1, g1⟩)
    | (go_at_call 7; refine Calls.mono (HWk.out _ _ _ g1 h1 hA1) ?_; rintro e w5 ⟨A5, cap5, rfl, h5, g5⟩; have gg5 : Gr wa w5 := g1.trans g5; have b5 := HB.out.gr (gg5.alloc (.cells #[.int .i64 who, .string (bs key), .slice A5 n cap5, .int .i64 u, .int .i64 s2, .string (bs r2)] 28)); have d0 : (w5.alloc (.cells #[.int .i64 who, .string (bs key), .slice A5 n cap5, .int .i64 u, .int .i64 s2, .string (bs r2)] 28)).cell? ⟨p, 0, none⟩ = some (.int .i64 who) := b5.cell 0; have d1 : (w5.alloc (.cells #[.int .i64 who, .string (bs key), .slice A5 n cap5, .int .i64 u, .int .i64 s2, .string (bs r2)] 28)).cell? ⟨p, 1, none⟩ = some (.string (bs key)) := b5.cell 1; have d2 : (w5.alloc (.cells #[.int .i64 who, .string (bs key), .slice A5 n cap5, .int .i64 u, .int .i64 s2, .string (bs r2)] 28)).cell? ⟨p, 2, none⟩ = some (.slice A n cap) := b5.cell 2; have d3 : (w5.alloc (.cells #[.int .i64 who, .string (bs key), .slice A5 n cap5, .int .i64 u, .int .i64 s2, .string (bs r2)] 28)).cell? ⟨p, 3, none⟩ = some (.int .i64 f) := b5.cell 3; have d4 : (w5.alloc (.cells #[.int .i64 who, .string (bs key), .slice A5 n cap5, .int .i64 u, .int .i64 s2, .string (bs r2)] 28)).cell? ⟨p, 4, none⟩ = some (.int .i64 sz) := b5.cell 4; have d5 : (w5.alloc (.cells #[.int .i64 who, .string (bs key), .slice A5 n cap5, .int .i64 u, .int .i64 s2, .string (bs r2)] 28)).cell? ⟨p, 5, none⟩ = some (.string (bs r)) := b5.cell 5; have hq5 := Blk.new w5 28 #[.int .i64 who, .string (bs key), .slice A5 n cap5, .int .i64 u, .int .i64 s2, .string (bs r2)]; have h5' := h5.gr ((Gr.refl w5).alloc (.cells #[.int .i64 who, .string (bs key), .slice A5 n cap5, .int .i64 u, .int .i64 s2, .string (bs r2)] 28)))
    | (go_at_call 9; refine Calls.mono (HRw.out _ (gg5.alloc _)) ?_; rintro e w6 ⟨A6, cap6, rfl, h6, g6⟩; have gg6 : Gr wa (w6.alloc (.cells #[.int .i64 who, .string (bs key), .slice A6 n cap6, .int .i64 u, .int .i64 s2, .string (bs r2)] 28)) := ((gg5.alloc _).trans g6).alloc _; have hq6 := (hq5.gr g6).alloc (.cells #[.int .i64 who, .string (bs key), .slice A6 n cap6, .int .i64 u, .int .i64 s2, .string (bs r2)] 28); have x0 : (w6.alloc (.cells #[.int .i64 who, .string (bs key), .slice A6 n cap6, .int .i64 u, .int .i64 s2, .string (bs r2)] 28)).cell? ⟨w5.heap.size, 0, none⟩ = some (.int .i64 who) := hq6.cell 0; have x1 : (w6.alloc (.cells #[.int .i64 who, .string (bs key), .slice A6 n cap6, .int .i64 u, .int .i64 s2, .string (bs r2)] 28)).cell? ⟨w5.heap.size, 1, none⟩ = some (.string (bs key)) := hq6.cell 1; have x2 : (w6.alloc (.cells #[.int .i64 who, .string (bs key), .slice A6 n cap6, .int .i64 u, .int .i64 s2, .string (bs r2)] 28)).cell? ⟨w5.heap.size, 2, none⟩ = some (.slice A5 n cap5) := hq6.cell 2; have x3 : (w6.alloc (.cells #[.int .i64 who, .string (bs key), .slice A6 n cap6, .int .i64 u, .int .i64 s2, .string (bs r2)] 28)).cell? ⟨w5.heap.size, 3, none⟩ = some (.int .i64 u) := hq6.cell 3; have x4 : (w6.alloc (.cells #[.int .i64 who, .string (bs key), .slice A6 n cap6, .int .i64 u, .int .i64 s2, .string (bs r2)] 28)).cell? ⟨w5.heap.size, 4, none⟩ = some (.int .i64 s2) := hq6.cell 4; have x5 : (w6.alloc (.cells #[.int .i64 who, .string (bs key), .slice A6 n cap6, .int .i64 u, .int .i64 s2, .string (bs r2)] 28)).cell? ⟨w5.heap.size, 5, none⟩ = some (.string (bs r2)) := hq6.cell 5; have h5'' := (h5'.gr g6).gr ((Gr.refl w6).alloc (.cells #[.int .i64 who, .string (bs key), .slice A6 n cap6, .int .i64 u, .int .i64 s2, .string (bs r2)] 28)); have h6' := h6.gr ((Gr.refl w6).alloc (.cells #[.int .i64 who, .string (bs key), .slice A6 n cap6, .int .i64 u, .int .i64 s2, .string (bs r2)] 28)))
    | (go_at_call 10; refine Calls.mono (HSw.out _ _ _ _ _ h5'' h6') ?_; rintro e w7 ⟨rfl, g7⟩)
    | (go_at_call 11; refine Calls.mono (HNd.out _ (gg6.trans g7)) ?_; rintro e w8 ⟨rfl, g8⟩))
  go_ret
  exact ⟨rfl, hg0.trans (gg6.trans (g7.trans g8))⟩
end Go.Proofs.YtbhpglhmnpcnkaaDoor
