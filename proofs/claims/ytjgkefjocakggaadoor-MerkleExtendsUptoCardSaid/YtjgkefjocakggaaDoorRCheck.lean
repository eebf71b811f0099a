/-
  cartularyref.Check by its contract.
-/
import Derived.Test.YtjgkefjocakggaaDoorMerkUp
namespace Go.Proofs.YtjgkefjocakggaaDoor
open Go.RowKit
set_option linter.unusedVariables false

theorem checkB_ckI (root s : List UInt8) (n i : Nat) (ps : List (List UInt8)) (h1 : 1 ≤ n) (h2 : n ≤ 1099511627776) (h4 : i < n) :
    checkB root n i s ps = match ckI i (n - 1) (leafH s) ps with | some r => r == root | none => false := by
  unfold checkB
  rw [if_pos ⟨by omega, by omega, by omega, by omega⟩, Int.toNat_natCast, Int.toNat_natCast, ← up_ckI (leafH s) ps n i h4]
  cases (upR (leafH s) n i ps.reverse).2 <;> simp

def fin (root : List UInt8) : Option (List UInt8) → Bool
  | some r => r == root
  | none => false

set_option maxRecDepth 100000 in
set_option maxHeartbeats 4000000 in
theorem rcheck_any (root s : List UInt8) (n i : Int) (ps : List (List UInt8)) (m : Nat) (A : Option Addr) (cap : Nat) (w : World) (hm : m ≤ 1099511627776) (hsl : s.length ≤ 1099511627776) (hrow : StrRow w A m ps) (hs : Short ps) :
    Calls Tryd.prog 16 #[.string (bs root), .int .i64 n, .int .i64 i, .string (bs s), .slice A m cap] w fun e w' => e = .returned (.bool (checkB root n i s ps)) ∧ Gr w w' := by
  by_cases h1 : 1 ≤ n
  · by_cases h2 : n ≤ 1099511627776
    · by_cases h3 : 0 ≤ i
      · by_cases h4 : i < n
        · obtain ⟨N, rfl⟩ : ∃ N : Nat, n = N := ⟨n.toNat, by omega⟩
          obtain ⟨I, rfl⟩ : ∃ I : Nat, i = I := ⟨i.toNat, by omega⟩
          have HC : Sec (checkB root N I s ps = fin root (ckI I (N - 1) (leafH s) ps)) := sec (by rw [checkB_ckI root s N I ps (by omega) (by omega) (by omega)]; rfl)
          rw [HC.out]
          have hlen := hrow.len
          have hN1 : ((N : Int) - 1) = ((N - 1 : Nat) : Int) := by omega
          go_enter Tryd.func16, Tryd.ntmps16
          go_wp2_with (go_at_call 18; with_reducible refine Calls.mono (rleaf_any s _ hsl) ?_; rintro e w1 ⟨rfl, g1⟩)
          have hll : (leafH s).length ≤ 32 := by rw [leafH_len]; omega
          have HROW := sec hrow
          have HSH := sec hs
          clear hrow hs HC
          go_loopw [38, 11, 12, 13, 15] (fun jv rv av lv _ wr => ∃ (j a l : Nat) (r : List UInt8), jv = .int .i64 (j : Int) ∧ j ≤ m ∧ rv = .string (bs r) ∧ av = .int .i64 (a : Int) ∧ lv = .int .i64 (l : Int) ∧ a ≤ l ∧ l ≤ 1099511627776 ∧ r.length ≤ 32 ∧ Sec (ckI I (N - 1) (leafH s) ps = ckI a l r (ps.drop j)) ∧ Gr w wr)
            (fun jv _ _ _ _ _ => m - (intOf jv).toNat)
          case atStart => exact ⟨0, I, N - 1, leafH s, rfl, by omega, rfl, rfl, rfl, by omega, by omega, hll, sec (by rw [List.drop_zero]), g1⟩
          case round =>
            clear hN1 hll g1
            obtain ⟨j, a, l, r, rfl, hj, rfl, rfl, rfl, hal, hl40, hrl, HK, hg⟩ := hrel
            by_cases hlt : j < m
            · have hji : (j : Int) < (m : Int) := by omega
              have hjp : j < ps.length := by omega
              obtain ⟨b, off, rfl, hc⟩ := (HROW.out.gr hg).cell hjp
              have hpl := HSH.out ps[j] (List.getElem_mem hjp)
              have hck := HK.out
              rw [List.drop_eq_getElem_cons hjp] at hck
              obtain ⟨p, hp⟩ : ∃ p, p = ps[j] := ⟨_, rfl⟩
              rw [← hp] at hc hpl hck
              clear hp hjp
              by_cases hl0 : l = 0
              · subst hl0
                have HF : Sec (fin root (ckI I (N - 1) (leafH s) ps) = false) := sec (by rw [hck]; rfl)
                clear hck
                go_wp2_with fail
                go_ret
                exact ⟨by rw [HF.out]; rfl, hg⟩
              · have t0 : ((l : Int) == 0) = false := by rw [beq_eq_false_iff_ne]; omega
                by_cases ho : a % 2 = 1
                · have hCK : ckI I (N - 1) (leafH s) ps = ckI ((strip a l).1 / 2) ((strip a l).2 / 2) (nodeH p r) (ps.drop (j + 1)) := by
                    rw [hck, ckI, if_neg hl0, if_pos (.inl ho)]
                  have t1 : ((a : Int) % 2 == 1) = true := by rw [beq_iff_eq]; omega
                  have t2 : True := trivial
                  clear hck ho hl0
                  have hT2 := rtwo_any p r wr hpl (by omega)
                  have HT2 := sec hT2
                  have HSR := sec hCK
                  clear hT2 hCK
                  go_wp2_with (go_at_call 20; with_reducible refine Calls.mono HT2.out ?_; rintro e w3 ⟨rfl, g3⟩)
                  clear t1 t2
                  go_loopw [12, 13] (fun av lv wr' => ∃ a' l' : Nat, av = .int .i64 (a' : Int) ∧ lv = .int .i64 (l' : Int) ∧ a' ≤ l' ∧ l' ≤ 1099511627776 ∧ Sec (strip a' l' = strip a l) ∧ wr' = w3)
                    (fun av _ _ => (intOf av).toNat)
                  case atStart => exact ⟨a, l, rfl, rfl, hal, hl40, sec rfl, rfl⟩
                  case round =>
                    obtain ⟨a', l', rfl, rfl, hal', hl40', HS', rfl⟩ := hrel
                    by_cases hgo : a' % 2 = 0 ∧ 0 < a'
                    · have u1 : ((a' : Int) % 2 == 0) = true := by rw [beq_iff_eq]; omega
                      have u2 : 0 < (a' : Int) := by omega
                      have HG := sec (strip_go (l := l') hgo)
                      have HG2 := sec hgo
                      clear hgo
                      go_wp2_with fail
                      go_roundw
                      case rel => exact ⟨a' / 2, l' / 2, by go_num, by go_num, by omega, by omega, sec (by rw [← HG.out]; exact HS'.out), by trivial⟩
                      case measure => simp [intOf]; omega
                    · have HG := sec (strip_end (l := l') hgo)
                      by_cases hz : a' % 2 = 0
                      · have u1 : ((a' : Int) % 2 == 0) = true := by rw [beq_iff_eq]; omega
                        have u2 : ¬ 0 < (a' : Int) := by omega
                        clear hgo hz
                        go_wp2_with fail
                        go_roundw
                        case rel =>
                          refine ⟨j + 1, a' / 2, l' / 2, nodeH p r, by go_num, by omega, rfl, by go_num, by go_num, by omega, by omega, by rw [nodeH_len]; omega, sec ?_, hg.trans g3⟩
                          rw [HSR.out, ← HS'.out, HG.out]
                        case measure => simp [intOf]; omega
                      · have u1 : ((a' : Int) % 2 == 0) = false := by rw [beq_eq_false_iff_ne]; omega
                        clear hgo hz
                        go_wp2_with fail
                        go_roundw
                        case rel =>
                          refine ⟨j + 1, a' / 2, l' / 2, nodeH p r, by go_num, by omega, rfl, by go_num, by go_num, by omega, by omega, by rw [nodeH_len]; omega, sec ?_, hg.trans g3⟩
                          rw [HSR.out, ← HS'.out, HG.out]
                        case measure => simp [intOf]; omega
                · by_cases he : a = l
                  · have hCK : ckI I (N - 1) (leafH s) ps = ckI ((strip a l).1 / 2) ((strip a l).2 / 2) (nodeH p r) (ps.drop (j + 1)) := by
                      rw [hck, ckI, if_neg hl0, if_pos (.inr he)]
                    have t1 : ((a : Int) % 2 == 1) = false := by rw [beq_eq_false_iff_ne]; omega
                    have t2 : ((a : Int) == (l : Int)) = true := by rw [beq_iff_eq]; omega
                    clear hck ho he hl0
                    have hT2 := rtwo_any p r wr hpl (by omega)
                    have HT2 := sec hT2
                    have HSR := sec hCK
                    clear hT2 hCK
                    go_wp2_with (go_at_call 20; with_reducible refine Calls.mono HT2.out ?_; rintro e w3 ⟨rfl, g3⟩)
                    clear t1 t2
                    go_loopw [12, 13] (fun av lv wr' => ∃ a' l' : Nat, av = .int .i64 (a' : Int) ∧ lv = .int .i64 (l' : Int) ∧ a' ≤ l' ∧ l' ≤ 1099511627776 ∧ Sec (strip a' l' = strip a l) ∧ wr' = w3)
                      (fun av _ _ => (intOf av).toNat)
                    case atStart => exact ⟨a, l, rfl, rfl, hal, hl40, sec rfl, rfl⟩
                    case round =>
                      obtain ⟨a', l', rfl, rfl, hal', hl40', HS', rfl⟩ := hrel
                      by_cases hgo : a' % 2 = 0 ∧ 0 < a'
                      · have u1 : ((a' : Int) % 2 == 0) = true := by rw [beq_iff_eq]; omega
                        have u2 : 0 < (a' : Int) := by omega
                        have HG := sec (strip_go (l := l') hgo)
                        have HG2 := sec hgo
                        clear hgo
                        go_wp2_with fail
                        go_roundw
                        case rel => exact ⟨a' / 2, l' / 2, by go_num, by go_num, by omega, by omega, sec (by rw [← HG.out]; exact HS'.out), by trivial⟩
                        case measure => simp [intOf]; omega
                      · have HG := sec (strip_end (l := l') hgo)
                        by_cases hz : a' % 2 = 0
                        · have u1 : ((a' : Int) % 2 == 0) = true := by rw [beq_iff_eq]; omega
                          have u2 : ¬ 0 < (a' : Int) := by omega
                          clear hgo hz
                          go_wp2_with fail
                          go_roundw
                          case rel =>
                            refine ⟨j + 1, a' / 2, l' / 2, nodeH p r, by go_num, by omega, rfl, by go_num, by go_num, by omega, by omega, by rw [nodeH_len]; omega, sec ?_, hg.trans g3⟩
                            rw [HSR.out, ← HS'.out, HG.out]
                          case measure => simp [intOf]; omega
                        · have u1 : ((a' : Int) % 2 == 0) = false := by rw [beq_eq_false_iff_ne]; omega
                          clear hgo hz
                          go_wp2_with fail
                          go_roundw
                          case rel =>
                            refine ⟨j + 1, a' / 2, l' / 2, nodeH p r, by go_num, by omega, rfl, by go_num, by go_num, by omega, by omega, by rw [nodeH_len]; omega, sec ?_, hg.trans g3⟩
                            rw [HSR.out, ← HS'.out, HG.out]
                          case measure => simp [intOf]; omega
                  · have t1 : ((a : Int) % 2 == 1) = false := by rw [beq_eq_false_iff_ne]; omega
                    have t2 : ((a : Int) == (l : Int)) = false := by rw [beq_eq_false_iff_ne]; omega
                    have hCK : ckI I (N - 1) (leafH s) ps = ckI (a / 2) (l / 2) (nodeH r p) (ps.drop (j + 1)) := by
                      rw [hck, ckI, if_neg hl0, if_neg (by omega)]
                    have hT2 := rtwo_any r p wr (by omega) hpl
                    have HT2 := sec hT2
                    have HSR := sec hCK
                    clear hT2 hCK hck ho he hl0
                    go_wp2_with (go_at_call 20; with_reducible refine Calls.mono HT2.out ?_; rintro e w3 ⟨rfl, g3⟩)
                    go_roundw
                    case rel => exact ⟨j + 1, a / 2, l / 2, nodeH r p, by go_num, by omega, rfl, by go_num, by go_num, by omega, by omega, by rw [nodeH_len]; omega, HSR, hg.trans g3⟩
                    case measure => simp [intOf]; omega
            · obtain rfl : j = m := by omega
              have hck := HK.out
              rw [List.drop_eq_nil_of_le (by omega), ckI] at hck
              by_cases hl0 : l = 0
              · subst hl0
                have HF : Sec (fin root (ckI I (N - 1) (leafH s) ps) = (r == root)) := sec (by rw [hck]; rfl)
                clear hck hlt hj
                go_wp2_with fail
                go_ret
                exact ⟨by rw [HF.out]; rfl, hg⟩
              · have t0 : ((l : Int) == 0) = false := by rw [beq_eq_false_iff_ne]; omega
                have HF : Sec (fin root (ckI I (N - 1) (leafH s) ps) = false) := sec (by rw [hck, if_neg hl0]; rfl)
                clear hck hl0 hlt hj
                go_wp2_with fail
                go_ret
                exact ⟨by rw [HF.out]; rfl, hg⟩
        · have HC : Sec (checkB root n i s ps = false) := sec (by unfold checkB; rw [if_neg (fun h => h4 h.2.2.2)])
          rw [HC.out]
          go_enter Tryd.func16, Tryd.ntmps16
          go_wp2_with fail
          go_ret
          exact ⟨rfl, Gr.refl _⟩
      · have HC : Sec (checkB root n i s ps = false) := sec (by unfold checkB; rw [if_neg (fun h => h3 h.2.2.1)])
        rw [HC.out]
        go_enter Tryd.func16, Tryd.ntmps16
        go_wp2_with fail
        go_ret
        exact ⟨rfl, Gr.refl _⟩
    · have HC : Sec (checkB root n i s ps = false) := sec (by unfold checkB; rw [if_neg (fun h => h2 h.2.1)])
      rw [HC.out]
      go_enter Tryd.func16, Tryd.ntmps16
      go_wp2_with fail
      go_ret
      exact ⟨rfl, Gr.refl _⟩
  · have HC : Sec (checkB root n i s ps = false) := sec (by unfold checkB; rw [if_neg (fun h => h1 h.1)])
    rw [HC.out]
    go_enter Tryd.func16, Tryd.ntmps16
    go_wp2_with fail
    go_ret
    exact ⟨rfl, Gr.refl _⟩
end Go.Proofs.YtjgkefjocakggaaDoor
