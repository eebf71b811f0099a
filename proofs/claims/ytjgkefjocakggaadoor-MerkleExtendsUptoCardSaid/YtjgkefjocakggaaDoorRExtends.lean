/-
  cartularyref.Extends by its contract.
-/
import Derived.Test.YtjgkefjocakggaaDoorExtends
import Derived.Test.YtjgkefjocakggaaDoorPath
import Derived.Laws.AppendOwnNone
namespace Go.Proofs.YtjgkefjocakggaaDoor
open Go.RowKit
set_option linter.unusedVariables false

/-- append of a row of strings, nil let in, onto a row of the call's own that is not empty -/
theorem wpList_append_strs {ops : Array Oper} {rest : List Oper} {o : Oper} {a : Act} {Q : Exit → Act → World → Prop} {w : World}
    (hgd : o.guard = none) (s x : Operand) (ho : o.op = .call { callee := .builtin .append, args := #[s, x], argTypes := #[41, 41] })
    {A : Option Addr} {B n cap : Nat} {xs : List Value} (hs : a.eval s = .slice A n cap) (hown : w.ownsRow B 9 1 (.slice A n cap) n xs) (hn : 0 < n)
    {A2 : Option Addr} {m c : Nat} {ss : List (List UInt8)} (hx : a.eval x = .slice A2 m c) (hrow : StrRow w A2 m ss) (hA : A2 = none → m = 0 ∧ c = 0)
    (hbytes : (n + m) * 16 ≤ 140737488355328) (h63 : n + m ≤ maxLen) (hB : B ≤ w.heap.size)
    (h : ∀ g cap' w', w'.ownsRow B 9 1 (.slice (some ⟨g, 0, none⟩) (n + m) cap') (n + m) (xs ++ ss.map strV) → w.grownBy w' (Value.ownBlock (.slice A n cap)) →
      wpList Tryd.prog ops Q rest (a.put o.dst (.slice (some ⟨g, 0, none⟩) (n + m) cap')) w') :
    wpList Tryd.prog ops Q (o :: rest) a w := by
  obtain ⟨i0, hi0, hz0, hz1, hz2⟩ := info_parts E.str.info
  have hlen := hrow.len
  cases A2 with
  | none =>
    obtain ⟨rfl, rfl⟩ := hA rfl
    obtain rfl : ss = [] := List.eq_nil_of_length_eq_zero hlen
    refine wpList_append_own_none hgd s x 41 ho B 9 i0 1 E.str.under hi0 _ n xs hs hown hx ?_
    have hown0 := hown
    rcases hown.2 with ⟨_, h0⟩ | ⟨g, cap', cur, e, _⟩
    · omega
    · injection e with e1 _ e3
      subst e1 e3
      have := h g cap w (by rw [List.map_nil, List.append_nil]; exact hown0) ⟨rfl, rfl, rfl, Nat.le_refl _, fun _ _ _ => rfl⟩
      exact this
  | some ad =>
    refine wpList_append_own w hgd s x 41 ho B 9 i0 (.string (bs [])) 1 16 E.str.under hi0 hz0 hz1 hz2 E.str.zcells (by omega) _ n xs hs hown ad m c (ss.map strV) hx (by rw [List.length_map, hlen, Nat.mul_one]) ?_ strV_oneCell h63 hbytes hB ?_
    · intro j u hu
      have hj : j < ss.length := by have := (List.getElem?_eq_some_iff.1 hu).1; simpa using this
      obtain ⟨b, off, e, hc⟩ := Row.at_ hrow (by omega)
      injection e with e
      subst e
      have : (⟨b, off, none⟩ : Addr).add j = ⟨b, off + j, none⟩ := by unfold Addr.add; split <;> simp_all
      rw [this]
      exact hc j u hu
    · intro v' w' hown' hgr hnil
      rcases hown'.2 with ⟨_, h0⟩ | ⟨g, cap', cur, rfl, _⟩
      · omega
      · exact h g cap' w' hown' hgr

set_option maxRecDepth 100000 in
set_option maxHeartbeats 8000000 in
theorem rextends_in (old root : List UInt8) (M N : Nat) (ps : List (List UInt8)) (k : Nat) (A : Option Addr) (cap : Nat) (w : World) (hM : 0 < M) (hMN : M < N) (hN : N ≤ 1099511627776) (hold : old.length ≤ 1099511627776) (hk : k ≤ 1099511627776) (hcap : k ≤ cap) (hA : A = none → k = 0 ∧ cap = 0) (hrow : StrRow w A k ps) (hs : Short ps) :
    Calls Tryd.prog 30 #[.string (bs old), .int .i64 (M : Int), .string (bs root), .int .i64 (N : Int), .slice A k cap] w fun e w' => e = .returned (.bool (extB old M root N ps)) ∧ Gr w w' := by
  have hE0 : extB old M root N ps = both2 old root (bothR old M N true ps.reverse) := by
    unfold extB; rw [if_pos ⟨by omega, by omega, by omega⟩, if_neg (by omega), Int.toNat_natCast, Int.toNat_natCast]
  rw [both_exI old ps M N hM hMN] at hE0
  have HE0 := sec hE0
  have q1 : ¬ (M : Int) < 0 := by omega
  have q2 : ¬ (N : Int) < (M : Int) := by omega
  have q3 : ¬ (1099511627776 : Int) < (N : Int) := by omega
  have q4 : ((M : Int) == (N : Int)) = false := by rw [beq_eq_false_iff_ne]; omega
  have q5 : ((M : Int) == 0) = false := by rw [beq_eq_false_iff_ne]; omega
  have HROWP := sec hrow
  have HSP := sec hs
  have e1 : (M : Int) - 1 = ((M - 1 : Nat) : Int) := by omega
  have e2 : (N : Int) - 1 = ((N - 1 : Nat) : Int) := by omega
  clear hE0 hrow hs
  go_enter Tryd.func30, Tryd.ntmps30
  go_wp2_with fail
  go_loopw [11, 12] (fun av lv wr => ∃ a l : Nat, av = .int .i64 (a : Int) ∧ lv = .int .i64 (l : Int) ∧ a < l ∧ l ≤ 1099511627776 ∧ Sec (stOnes a l = stOnes (M - 1) (N - 1)) ∧ wr = w)
    (fun av _ _ => (intOf av).toNat)
  case atStart => exact ⟨M - 1, N - 1, rfl, rfl, by omega, by omega, sec rfl, rfl⟩
  case round =>
    obtain ⟨a0, l0, rfl, rfl, hal0', hl040, HS, hwr⟩ := hrel
    obtain rfl := hwr.symm
    clear e1 e2 q4 q5
    by_cases ho : a0 % 2 = 1
    · have t1 : ((a0 : Int) % 2 == 1) = true := by rw [beq_iff_eq]; omega
      have HO := sec (stOnes_odd (l := l0) ho)
      have HODD := sec ho
      clear ho
      go_wp2_with fail
      go_roundw
      case rel => exact ⟨a0 / 2, l0 / 2, by go_num, by go_num, by have := HODD.out; omega, by omega, sec (by rw [← HO.out]; exact HS.out), by trivial⟩
      case measure => simp [intOf]; have := HODD.out; omega
    · have t1 : ((a0 : Int) % 2 == 1) = false := by rw [beq_eq_false_iff_ne]; omega
      have hst : stOnes (M - 1) (N - 1) = (a0, l0) := by rw [← HS.out]; exact stOnes_even (by omega)
      have hEX := HE0.out
      rw [hst] at hEX
      simp only at hEX
      have hal0 : a0 ≤ l0 := by omega
      clear HE0 hst HS ho
      by_cases hz : a0 = 0
      · subst hz
        rw [if_pos rfl] at hEX
        have HEX0 := sec hEX
        clear hEX
        have hb1 : (1 + k) * 16 ≤ 140737488355328 := by omega
        have hb2 : 1 + k ≤ maxLen := by unfold maxLen; omega
        have HRW : Sec (∀ w', Gr w w' → StrRow w' A k ps) := sec fun w' g => HROWP.out.gr g
        go_wp2_with (refine wpList_append_strs rfl (.tmp 72) (.tmp 73) rfl (A2 := A) rfl (World.ownsRow_lit w #[.string (bs old)] 1 (Nat.le_refl _) (by simp [maxLen]) rfl) (by omega) rfl (HRW.out _ ((Gr.refl _).alloc _)) hA hb1 hb2 (by simp) ?_; intro g' capq wq hownq hgrq)
        have hgq : Gr w wq := Gr.grown ((Gr.refl w).alloc _) hgrq (fun k hk => by simp [Value.ownBlock] at hk; omega)
        have HROW : Sec (StrRow wq (some ⟨g', 0, none⟩) (1 + k) (old :: ps)) := sec (Row.own hownq)
        have hcapK : 1 + k ≤ capq := by
          rcases hownq.2 with ⟨h, _⟩ | ⟨_, _, _, e, _, _, h, _⟩
          · cases h
          · injection e with _ _ e; omega
        have HSHQ : Sec (Short (old :: ps)) := sec (fun s h => by
          rcases List.mem_cons.1 h with rfl | h
          · exact hold
          · exact HSP.out s h)
        have HEX : Sec (extB old (M : Int) root (N : Int) ps = both2 old root (exI 0 l0 (old, old) ps)) := sec HEX0.out
        obtain ⟨K, hK⟩ : ∃ K, K = 1 + k := ⟨_, rfl⟩
        have hKb : K ≤ 1099511627777 := by omega
        rw [← hK] at HROW hcapK
        rw [← hK]
        clear hownq hgrq hb1 hb2 HEX0 HRW HROWP hK hA hcap hk
        have hc0 : wq.cell? ⟨g', 0, none⟩ = some (.string (bs old)) := by
          obtain ⟨b', off', e, hc⟩ := HROW.out.cell (i := 0) (by simp)
          injection e with e; injection e with e1 e2 _
          subst e1 e2
          exact hc
        have hp0 : old.length ≤ 1099511627776 := HSHQ.out old (by simp)
        have HCS : Sec (∀ s ∈ ps, s.length ≤ 1099511627776) := sec (fun s h => HSHQ.out s (by simp [h]))
        have hKl : ps.length + 1 = K := by have := HROW.out.len; simpa using this
        have tK : ((K : Int) == 0) = false := by rw [beq_eq_false_iff_ne]; omega
        have h1K : (1 : Int) ≤ (K : Int) := by omega
        have h0K : (0 : Int) < (K : Int) := by omega
        by_cases hK1 : K = 1
        · subst hK1
          try rw [show ((1 : Nat) : Int) = 1 from rfl]
          have hcs0 : ps = [] := List.eq_nil_of_length_eq_zero (by omega)
          have hex : extB old (M : Int) root (N : Int) ps = both2 old root (exI 0 l0 (old, old) []) := HEX.out.trans (by rw [hcs0])
          clear hcs0
          by_cases hl0 : l0 = 0
          · subst hl0
            have HF : Sec (extB old (M : Int) root (N : Int) ps = (old == old && old == root)) := sec hex
            clear hex HEX
            by_cases hcap1 : capq = 1
            · subst hcap1
              go_wp2_with fail
              go_quiet (fail)
              go_wp2_with fail
              go_loopw [87, 11, 12, 13, 14, 16] (fun iv _ lv xv yv _ wr => iv = .int .i64 0 ∧ lv = .int .i64 0 ∧ xv = .string (bs old) ∧ yv = .string (bs old) ∧ wr = wq.drewN nq) (fun _ _ _ _ _ _ _ => 0)
              case atStart => exact ⟨rfl, rfl, rfl, rfl, rfl⟩
              case round =>
                obtain ⟨rfl, rfl, rfl, rfl, rfl⟩ := hrel
                go_wp2_with fail
                all_goals
                  go_ret
                  refine ⟨?_, hgq.drewN _⟩
                  rw [HF.out]
                  simp [*]
            · go_wp2_with fail
              go_quiet (fail)
              go_wp2_with fail
              go_loopw [87, 11, 12, 13, 14, 16] (fun iv _ lv xv yv _ wr => iv = .int .i64 0 ∧ lv = .int .i64 0 ∧ xv = .string (bs old) ∧ yv = .string (bs old) ∧ wr = wq.drewN nq) (fun _ _ _ _ _ _ _ => 0)
              case atStart => exact ⟨rfl, rfl, rfl, rfl, rfl⟩
              case round =>
                obtain ⟨rfl, rfl, rfl, rfl, rfl⟩ := hrel
                go_wp2_with fail
                all_goals
                  go_ret
                  refine ⟨?_, hgq.drewN _⟩
                  rw [HF.out]
                  simp [*]
          · have t0 : ((l0 : Int) == 0) = false := by rw [beq_eq_false_iff_ne]; omega
            have HF : Sec (extB old (M : Int) root (N : Int) ps = false) := sec (by rw [hex, exI, if_neg hl0]; rfl)
            clear hex HEX hl0
            by_cases hcap1 : capq = 1
            · subst hcap1
              go_wp2_with fail
              go_quiet (fail)
              go_wp2_with fail
              go_loopw [87, 11, 12, 13, 14, 16] (fun iv _ lv xv yv _ wr => iv = .int .i64 0 ∧ lv = .int .i64 (l0 : Int) ∧ xv = .string (bs old) ∧ yv = .string (bs old) ∧ wr = wq.drewN nq) (fun _ _ _ _ _ _ _ => 0)
              case atStart => exact ⟨rfl, rfl, rfl, rfl, rfl⟩
              case round =>
                obtain ⟨rfl, rfl, rfl, rfl, rfl⟩ := hrel
                go_wp2_with fail
                go_ret
                exact ⟨by rw [HF.out]; rfl, hgq.drewN _⟩
            · go_wp2_with fail
              go_quiet (fail)
              go_wp2_with fail
              go_loopw [87, 11, 12, 13, 14, 16] (fun iv _ lv xv yv _ wr => iv = .int .i64 0 ∧ lv = .int .i64 (l0 : Int) ∧ xv = .string (bs old) ∧ yv = .string (bs old) ∧ wr = wq.drewN nq) (fun _ _ _ _ _ _ _ => 0)
              case atStart => exact ⟨rfl, rfl, rfl, rfl, rfl⟩
              case round =>
                obtain ⟨rfl, rfl, rfl, rfl, rfl⟩ := hrel
                go_wp2_with fail
                go_ret
                exact ⟨by rw [HF.out]; rfl, hgq.drewN _⟩
        · obtain ⟨K2, rfl⟩ : ∃ K2, K = K2 + 1 := ⟨K - 1, by omega⟩
          have hcap1 : ¬ capq = 1 := by omega
          have hcsl : ps.length = K2 := by omega
          try rw [show ((K2 + 1 : Nat) : Int) = (K2 : Int) + 1 by omega]
          go_wp2_with fail
          go_quiet (fail)
          go_wp2_with fail
          have hgz0 : Gr w (wq.drewN nq) := hgq.drewN _
          have hrz : StrRow (wq.drewN nq) (some ⟨g', 1, none⟩) K2 ps :=
            StrRow.gr (w := wq) (by simpa using StrRow.drop HROW.out 1 (by omega)) ((Gr.refl _).drewN _)
          obtain ⟨wz, hwz⟩ : ∃ wz, wz = wq.drewN nq := ⟨_, rfl⟩
          rw [← hwz] at hgz0 hrz
          rw [← hwz]
          have HRZ := sec hrz
          have HKL := sec hcsl
          clear hwz hc0 hrz hcsl hKl tK h1K h0K hK1
          go_loopw [87, 11, 12, 13, 14, 16] (fun jv av lv xv yv _ wr => ∃ (j a l : Nat) (x1 x2 : List UInt8), jv = .int .i64 (j : Int) ∧ j ≤ K2 ∧ av = .int .i64 (a : Int) ∧ lv = .int .i64 (l : Int) ∧ xv = .string (bs x1) ∧ yv = .string (bs x2) ∧ a ≤ l ∧ l ≤ 1099511627776 ∧ x1.length ≤ 1099511627776 ∧ x2.length ≤ 1099511627776 ∧ Sec (exI 0 l0 (old, old) ps = exI a l (x1, x2) (ps.drop j)) ∧ Gr wz wr)
            (fun jv _ _ _ _ _ _ => K2 - (intOf jv).toNat)
          case atStart => exact ⟨0, 0, l0, old, old, rfl, by omega, rfl, rfl, rfl, rfl, hal0, hl040, hp0, hp0, sec (by rw [List.drop_zero]), Gr.refl _⟩
          case round =>
            obtain ⟨j, a, l, x1, x2, rfl, hj, rfl, rfl, rfl, rfl, hal, hl40, hx1, hx2, HK, hgz⟩ := hrel
            by_cases hlt : j < K2
            · have hji : (j : Int) < (K2 : Int) := by omega
              have hji1 : (j : Int) < (K2 : Int) + 1 := by omega
              have hjp : j < ps.length := by have := HKL.out; omega
              have hc : wr.cell? ⟨g', 1 + j, none⟩ = some (.string (bs ps[j])) := by
                obtain ⟨b', off', e, hc⟩ := (HRZ.out.gr hgz).cell hjp
                injection e with e; injection e with e1 e2 _
                subst e1
                rw [e2]
                exact hc
              have hpl := HCS.out ps[j] (List.getElem_mem hjp)
              have hck := HK.out
              rw [List.drop_eq_getElem_cons hjp] at hck
              obtain ⟨p, hp⟩ : ∃ p, p = ps[j] := ⟨_, rfl⟩
              rw [← hp] at hc hpl hck
              clear hp hjp
              by_cases hl0 : l = 0
              · subst hl0
                have HF : Sec (extB old (M : Int) root (N : Int) ps = false) := sec (by rw [HEX.out, hck]; rfl)
                clear hck
                go_wp2_with fail
                go_ret
                exact ⟨by rw [HF.out]; rfl, hgz0.trans hgz⟩
              · have t0 : ((l : Int) == 0) = false := by rw [beq_eq_false_iff_ne]; omega
                by_cases ho : a % 2 = 1
                · have hCK : exI 0 l0 (old, old) ps = exI ((strip a l).1 / 2) ((strip a l).2 / 2) (nodeH p x1, nodeH p x2) (ps.drop (j + 1)) := by
                    rw [hck, exI, if_neg hl0, if_pos (.inl ho)]
                  have t1 : ((a : Int) % 2 == 1) = true := by rw [beq_iff_eq]; omega
                  have t2 : True := trivial
                  clear ho hl0
                  have HT1 := sec (fun w => rtwo_any p x1 w hpl hx1)
                  have HT2 := sec (fun w => rtwo_any p x2 w hpl hx2)
                  have HSR := sec hCK
                  clear hCK hck
                  go_wp2_with (first
                    | (go_at_call 20; with_reducible refine Calls.mono (HT1.out _) ?_; rintro e w3 ⟨rfl, g3⟩; clear HT1)
                    | (go_at_call 20; with_reducible refine Calls.mono (HT2.out _) ?_; rintro e w4 ⟨rfl, g4⟩))
                  clear t1 t2
                  go_loopw [11, 12] (fun av lv wr' => ∃ a' l' : Nat, av = .int .i64 (a' : Int) ∧ lv = .int .i64 (l' : Int) ∧ a' ≤ l' ∧ l' ≤ 1099511627776 ∧ Sec (strip a' l' = strip a l) ∧ wr' = w4)
                    (fun av _ _ => (intOf av).toNat)
                  case atStart => exact ⟨a, l, rfl, rfl, hal, hl40, sec rfl, rfl⟩
                  case round =>
                    obtain ⟨a', l', rfl, rfl, hal', hl40', HS', rfl⟩ := hrel
                    by_cases hgo : a' % 2 = 0 ∧ 0 < a'
                    · have u1 : ((a' : Int) % 2 == 0) = true := by rw [beq_iff_eq]; omega
                      have u2 : 0 < (a' : Int) := by omega
                      have HG := sec (strip_go (l := l') hgo)
                      have HG2 := sec hgo
                      clear hgo
                      go_wp2_with fail
                      go_roundw
                      case rel => exact ⟨a' / 2, l' / 2, by go_num, by go_num, by omega, by omega, sec (by rw [← HG.out]; exact HS'.out), by trivial⟩
                      case measure => simp [intOf]; omega
                    · have HG := sec (strip_end (l := l') hgo)
                      by_cases hz : a' % 2 = 0
                      · have u1 : ((a' : Int) % 2 == 0) = true := by rw [beq_iff_eq]; omega
                        have u2 : ¬ 0 < (a' : Int) := by omega
                        clear hgo hz
                        go_wp2_with fail
                        go_roundw
                        case rel =>
                          refine ⟨j + 1, a' / 2, l' / 2, nodeH p x1, nodeH p x2, by go_num, by omega, by go_num, by go_num, rfl, rfl, by omega, by omega, by rw [nodeH_len]; omega, by rw [nodeH_len]; omega, sec ?_, hgz.trans (g3.trans g4)⟩
                          rw [HSR.out, ← HS'.out, HG.out]
                        case measure => simp [intOf]; omega
                      · have u1 : ((a' : Int) % 2 == 0) = false := by rw [beq_eq_false_iff_ne]; omega
                        clear hgo hz
                        go_wp2_with fail
                        go_roundw
                        case rel =>
                          refine ⟨j + 1, a' / 2, l' / 2, nodeH p x1, nodeH p x2, by go_num, by omega, by go_num, by go_num, rfl, rfl, by omega, by omega, by rw [nodeH_len]; omega, by rw [nodeH_len]; omega, sec ?_, hgz.trans (g3.trans g4)⟩
                          rw [HSR.out, ← HS'.out, HG.out]
                        case measure => simp [intOf]; omega
                · by_cases he : a = l
                  · have hCK : exI 0 l0 (old, old) ps = exI ((strip a l).1 / 2) ((strip a l).2 / 2) (nodeH p x1, nodeH p x2) (ps.drop (j + 1)) := by
                      rw [hck, exI, if_neg hl0, if_pos (.inr he)]
                    have t1 : ((a : Int) % 2 == 1) = false := by rw [beq_eq_false_iff_ne]; omega
                    have t2 : ((a : Int) == (l : Int)) = true := by rw [beq_iff_eq]; omega
                    clear ho he hl0
                    have HT1 := sec (fun w => rtwo_any p x1 w hpl hx1)
                    have HT2 := sec (fun w => rtwo_any p x2 w hpl hx2)
                    have HSR := sec hCK
                    clear hCK hck
                    go_wp2_with (first
                      | (go_at_call 20; with_reducible refine Calls.mono (HT1.out _) ?_; rintro e w3 ⟨rfl, g3⟩; clear HT1)
                      | (go_at_call 20; with_reducible refine Calls.mono (HT2.out _) ?_; rintro e w4 ⟨rfl, g4⟩))
                    clear t1 t2
                    go_loopw [11, 12] (fun av lv wr' => ∃ a' l' : Nat, av = .int .i64 (a' : Int) ∧ lv = .int .i64 (l' : Int) ∧ a' ≤ l' ∧ l' ≤ 1099511627776 ∧ Sec (strip a' l' = strip a l) ∧ wr' = w4)
                      (fun av _ _ => (intOf av).toNat)
                    case atStart => exact ⟨a, l, rfl, rfl, hal, hl40, sec rfl, rfl⟩
                    case round =>
                      obtain ⟨a', l', rfl, rfl, hal', hl40', HS', rfl⟩ := hrel
                      by_cases hgo : a' % 2 = 0 ∧ 0 < a'
                      · have u1 : ((a' : Int) % 2 == 0) = true := by rw [beq_iff_eq]; omega
                        have u2 : 0 < (a' : Int) := by omega
                        have HG := sec (strip_go (l := l') hgo)
                        have HG2 := sec hgo
                        clear hgo
                        go_wp2_with fail
                        go_roundw
                        case rel => exact ⟨a' / 2, l' / 2, by go_num, by go_num, by omega, by omega, sec (by rw [← HG.out]; exact HS'.out), by trivial⟩
                        case measure => simp [intOf]; omega
                      · have HG := sec (strip_end (l := l') hgo)
                        by_cases hz : a' % 2 = 0
                        · have u1 : ((a' : Int) % 2 == 0) = true := by rw [beq_iff_eq]; omega
                          have u2 : ¬ 0 < (a' : Int) := by omega
                          clear hgo hz
                          go_wp2_with fail
                          go_roundw
                          case rel =>
                            refine ⟨j + 1, a' / 2, l' / 2, nodeH p x1, nodeH p x2, by go_num, by omega, by go_num, by go_num, rfl, rfl, by omega, by omega, by rw [nodeH_len]; omega, by rw [nodeH_len]; omega, sec ?_, hgz.trans (g3.trans g4)⟩
                            rw [HSR.out, ← HS'.out, HG.out]
                          case measure => simp [intOf]; omega
                        · have u1 : ((a' : Int) % 2 == 0) = false := by rw [beq_eq_false_iff_ne]; omega
                          clear hgo hz
                          go_wp2_with fail
                          go_roundw
                          case rel =>
                            refine ⟨j + 1, a' / 2, l' / 2, nodeH p x1, nodeH p x2, by go_num, by omega, by go_num, by go_num, rfl, rfl, by omega, by omega, by rw [nodeH_len]; omega, by rw [nodeH_len]; omega, sec ?_, hgz.trans (g3.trans g4)⟩
                            rw [HSR.out, ← HS'.out, HG.out]
                          case measure => simp [intOf]; omega
                  · have t1 : ((a : Int) % 2 == 1) = false := by rw [beq_eq_false_iff_ne]; omega
                    have t2 : ((a : Int) == (l : Int)) = false := by rw [beq_eq_false_iff_ne]; omega
                    have hCK : exI 0 l0 (old, old) ps = exI (a / 2) (l / 2) (x1, nodeH x2 p) (ps.drop (j + 1)) := by
                      rw [hck, exI, if_neg hl0, if_neg (by omega)]
                    have HT2 := sec (fun w => rtwo_any x2 p w hx2 hpl)
                    have HSR := sec hCK
                    clear hCK hck ho he hl0
                    go_wp2_with (go_at_call 20; with_reducible refine Calls.mono (HT2.out _) ?_; rintro e w3 ⟨rfl, g3⟩)
                    go_roundw
                    case rel => exact ⟨j + 1, a / 2, l / 2, x1, nodeH x2 p, by go_num, by omega, by go_num, by go_num, rfl, rfl, by omega, by omega, hx1, by rw [nodeH_len]; omega, HSR, hgz.trans g3⟩
                    case measure => simp [intOf]; omega
            · obtain rfl : j = K2 := by omega
              have hck := HK.out
              rw [List.drop_eq_nil_of_le (by have := HKL.out; omega), exI] at hck
              by_cases hl0 : l = 0
              · subst hl0
                have HF : Sec (extB old (M : Int) root (N : Int) ps = (x1 == old && x2 == root)) := sec (by rw [HEX.out, hck]; rfl)
                clear hck hlt hj
                go_wp2_with fail
                all_goals
                  go_ret
                  refine ⟨?_, hgz0.trans hgz⟩
                  rw [HF.out]
                  simp [*]
              · have t0 : ((l : Int) == 0) = false := by rw [beq_eq_false_iff_ne]; omega
                have HF : Sec (extB old (M : Int) root (N : Int) ps = false) := sec (by rw [HEX.out, hck, if_neg hl0]; rfl)
                clear hck hl0 hlt hj
                go_wp2_with fail
                go_ret
                exact ⟨by rw [HF.out]; rfl, hgz0.trans hgz⟩
      · rw [if_neg hz] at hEX
        have tz : ((a0 : Int) == 0) = false := by rw [beq_eq_false_iff_ne]; omega
        cases ps with
        | nil =>
          have hk0 : k = 0 := by have := HROWP.out.len; simpa using this.symm
          subst hk0
          have HF : Sec (extB old (M : Int) root (N : Int) [] = false) := sec hEX
          clear hEX hz
          go_wp2_with fail
          go_ret
          exact ⟨by rw [HF.out]; rfl, Gr.refl _⟩
        | cons p0 cs =>
          have HEX : Sec (extB old (M : Int) root (N : Int) (p0 :: cs) = both2 old root (exI a0 l0 (p0, p0) cs)) := sec hEX
          have HSHQ : Sec (Short (p0 :: cs)) := HSP
          have tk : ((k : Int) == 0) = false := by
            have := HROWP.out.len
            rw [beq_eq_false_iff_ne]
            simp at this
            omega
          have hgq : Gr w w := Gr.refl w
          obtain ⟨b, off, rfl, _⟩ := Row.at_ HROWP.out (by have := HROWP.out.len; simp at this; omega)
          have HROW := HROWP
          have hKb : k ≤ 1099511627777 := by omega
          clear hEX hz
          go_wp2_with fail
          have hc0 : w.cell? ⟨b, off, none⟩ = some (.string (bs p0)) := by
            obtain ⟨b', off', e, hc⟩ := HROW.out.cell (i := 0) (by simp)
            injection e with e; injection e with e1 e2 _
            subst e1 e2
            exact hc
          have hp0 : p0.length ≤ 1099511627776 := HSHQ.out p0 (by simp)
          have HCS : Sec (∀ s ∈ cs, s.length ≤ 1099511627776) := sec (fun s h => HSHQ.out s (by simp [h]))
          have hKl : cs.length + 1 = k := by have := HROW.out.len; simpa using this
          have tK : ((k : Int) == 0) = false := by rw [beq_eq_false_iff_ne]; omega
          have h1K : (1 : Int) ≤ (k : Int) := by omega
          have h0K : (0 : Int) < (k : Int) := by omega
          by_cases hK1 : k = 1
          · subst hK1
            try rw [show ((1 : Nat) : Int) = 1 from rfl]
            have hcs0 : cs = [] := List.eq_nil_of_length_eq_zero (by omega)
            have hex : extB old (M : Int) root (N : Int) (p0 :: cs) = both2 old root (exI a0 l0 (p0, p0) []) := HEX.out.trans (by rw [hcs0])
            clear hcs0
            by_cases hl0 : l0 = 0
            · subst hl0
              have HF : Sec (extB old (M : Int) root (N : Int) (p0 :: cs) = (p0 == old && p0 == root)) := sec hex
              clear hex HEX
              by_cases hcap1 : cap = 1
              · subst hcap1
                go_wp2_with fail
                go_quiet (fail)
                go_wp2_with fail
                go_loopw [87, 11, 12, 13, 14, 16] (fun iv _ lv xv yv _ wr => iv = .int .i64 0 ∧ lv = .int .i64 0 ∧ xv = .string (bs p0) ∧ yv = .string (bs p0) ∧ wr = w.drewN nq) (fun _ _ _ _ _ _ _ => 0)
                case atStart => exact ⟨rfl, rfl, rfl, rfl, rfl⟩
                case round =>
                  obtain ⟨rfl, rfl, rfl, rfl, rfl⟩ := hrel
                  go_wp2_with fail
                  all_goals
                    go_ret
                    refine ⟨?_, hgq.drewN _⟩
                    rw [HF.out]
                    simp [*]
              · go_wp2_with fail
                go_quiet (fail)
                go_wp2_with fail
                go_loopw [87, 11, 12, 13, 14, 16] (fun iv _ lv xv yv _ wr => iv = .int .i64 0 ∧ lv = .int .i64 0 ∧ xv = .string (bs p0) ∧ yv = .string (bs p0) ∧ wr = w.drewN nq) (fun _ _ _ _ _ _ _ => 0)
                case atStart => exact ⟨rfl, rfl, rfl, rfl, rfl⟩
                case round =>
                  obtain ⟨rfl, rfl, rfl, rfl, rfl⟩ := hrel
                  go_wp2_with fail
                  all_goals
                    go_ret
                    refine ⟨?_, hgq.drewN _⟩
                    rw [HF.out]
                    simp [*]
            · have t0 : ((l0 : Int) == 0) = false := by rw [beq_eq_false_iff_ne]; omega
              have HF : Sec (extB old (M : Int) root (N : Int) (p0 :: cs) = false) := sec (by rw [hex, exI, if_neg hl0]; rfl)
              clear hex HEX hl0
              by_cases hcap1 : cap = 1
              · subst hcap1
                go_wp2_with fail
                go_quiet (fail)
                go_wp2_with fail
                go_loopw [87, 11, 12, 13, 14, 16] (fun iv _ lv xv yv _ wr => iv = .int .i64 0 ∧ lv = .int .i64 (l0 : Int) ∧ xv = .string (bs p0) ∧ yv = .string (bs p0) ∧ wr = w.drewN nq) (fun _ _ _ _ _ _ _ => 0)
                case atStart => exact ⟨rfl, rfl, rfl, rfl, rfl⟩
                case round =>
                  obtain ⟨rfl, rfl, rfl, rfl, rfl⟩ := hrel
                  go_wp2_with fail
                  go_ret
                  exact ⟨by rw [HF.out]; rfl, hgq.drewN _⟩
              · go_wp2_with fail
                go_quiet (fail)
                go_wp2_with fail
                go_loopw [87, 11, 12, 13, 14, 16] (fun iv _ lv xv yv _ wr => iv = .int .i64 0 ∧ lv = .int .i64 (l0 : Int) ∧ xv = .string (bs p0) ∧ yv = .string (bs p0) ∧ wr = w.drewN nq) (fun _ _ _ _ _ _ _ => 0)
                case atStart => exact ⟨rfl, rfl, rfl, rfl, rfl⟩
                case round =>
                  obtain ⟨rfl, rfl, rfl, rfl, rfl⟩ := hrel
                  go_wp2_with fail
                  go_ret
                  exact ⟨by rw [HF.out]; rfl, hgq.drewN _⟩
          · obtain ⟨K2, rfl⟩ : ∃ K2, k = K2 + 1 := ⟨k - 1, by omega⟩
            have hcap1 : ¬ cap = 1 := by omega
            have hcsl : cs.length = K2 := by omega
            try rw [show ((K2 + 1 : Nat) : Int) = (K2 : Int) + 1 by omega]
            go_wp2_with fail
            go_quiet (fail)
            go_wp2_with fail
            have hgz0 : Gr w (w.drewN nq) := hgq.drewN _
            have hrz : StrRow (w.drewN nq) (some ⟨b, off + 1, none⟩) K2 cs :=
              StrRow.gr (w := w) (by simpa using StrRow.drop HROW.out 1 (by omega)) ((Gr.refl _).drewN _)
            obtain ⟨wz, hwz⟩ : ∃ wz, wz = w.drewN nq := ⟨_, rfl⟩
            rw [← hwz] at hgz0 hrz
            rw [← hwz]
            have HRZ := sec hrz
            have HKL := sec hcsl
            clear hwz hc0 hrz hcsl hKl tK h1K h0K hK1
            go_loopw [87, 11, 12, 13, 14, 16] (fun jv av lv xv yv _ wr => ∃ (j a l : Nat) (x1 x2 : List UInt8), jv = .int .i64 (j : Int) ∧ j ≤ K2 ∧ av = .int .i64 (a : Int) ∧ lv = .int .i64 (l : Int) ∧ xv = .string (bs x1) ∧ yv = .string (bs x2) ∧ a ≤ l ∧ l ≤ 1099511627776 ∧ x1.length ≤ 1099511627776 ∧ x2.length ≤ 1099511627776 ∧ Sec (exI a0 l0 (p0, p0) cs = exI a l (x1, x2) (cs.drop j)) ∧ Gr wz wr)
              (fun jv _ _ _ _ _ _ => K2 - (intOf jv).toNat)
            case atStart => exact ⟨0, a0, l0, p0, p0, rfl, by omega, rfl, rfl, rfl, rfl, hal0, hl040, hp0, hp0, sec (by rw [List.drop_zero]), Gr.refl _⟩
            case round =>
              obtain ⟨j, a, l, x1, x2, rfl, hj, rfl, rfl, rfl, rfl, hal, hl40, hx1, hx2, HK, hgz⟩ := hrel
              by_cases hlt : j < K2
              · have hji : (j : Int) < (K2 : Int) := by omega
                have hji1 : (j : Int) < (K2 : Int) + 1 := by omega
                have hjp : j < cs.length := by have := HKL.out; omega
                have hc : wr.cell? ⟨b, off + 1 + j, none⟩ = some (.string (bs cs[j])) := by
                  obtain ⟨b', off', e, hc⟩ := (HRZ.out.gr hgz).cell hjp
                  injection e with e; injection e with e1 e2 _
                  subst e1
                  rw [e2]
                  exact hc
                have hpl := HCS.out cs[j] (List.getElem_mem hjp)
                have hck := HK.out
                rw [List.drop_eq_getElem_cons hjp] at hck
                obtain ⟨p, hp⟩ : ∃ p, p = cs[j] := ⟨_, rfl⟩
                rw [← hp] at hc hpl hck
                clear hp hjp
                by_cases hl0 : l = 0
                · subst hl0
                  have HF : Sec (extB old (M : Int) root (N : Int) (p0 :: cs) = false) := sec (by rw [HEX.out, hck]; rfl)
                  clear hck
                  go_wp2_with fail
                  go_ret
                  exact ⟨by rw [HF.out]; rfl, hgz0.trans hgz⟩
                · have t0 : ((l : Int) == 0) = false := by rw [beq_eq_false_iff_ne]; omega
                  by_cases ho : a % 2 = 1
                  · have hCK : exI a0 l0 (p0, p0) cs = exI ((strip a l).1 / 2) ((strip a l).2 / 2) (nodeH p x1, nodeH p x2) (cs.drop (j + 1)) := by
                      rw [hck, exI, if_neg hl0, if_pos (.inl ho)]
                    have t1 : ((a : Int) % 2 == 1) = true := by rw [beq_iff_eq]; omega
                    have t2 : True := trivial
                    clear ho hl0
                    have HT1 := sec (fun w => rtwo_any p x1 w hpl hx1)
                    have HT2 := sec (fun w => rtwo_any p x2 w hpl hx2)
                    have HSR := sec hCK
                    clear hCK hck
                    go_wp2_with (first
                      | (go_at_call 20; with_reducible refine Calls.mono (HT1.out _) ?_; rintro e w3 ⟨rfl, g3⟩; clear HT1)
                      | (go_at_call 20; with_reducible refine Calls.mono (HT2.out _) ?_; rintro e w4 ⟨rfl, g4⟩))
                    clear t1 t2
                    go_loopw [11, 12] (fun av lv wr' => ∃ a' l' : Nat, av = .int .i64 (a' : Int) ∧ lv = .int .i64 (l' : Int) ∧ a' ≤ l' ∧ l' ≤ 1099511627776 ∧ Sec (strip a' l' = strip a l) ∧ wr' = w4)
                      (fun av _ _ => (intOf av).toNat)
                    case atStart => exact ⟨a, l, rfl, rfl, hal, hl40, sec rfl, rfl⟩
                    case round =>
                      obtain ⟨a', l', rfl, rfl, hal', hl40', HS', rfl⟩ := hrel
                      by_cases hgo : a' % 2 = 0 ∧ 0 < a'
                      · have u1 : ((a' : Int) % 2 == 0) = true := by rw [beq_iff_eq]; omega
                        have u2 : 0 < (a' : Int) := by omega
                        have HG := sec (strip_go (l := l') hgo)
                        have HG2 := sec hgo
                        clear hgo
                        go_wp2_with fail
                        go_roundw
                        case rel => exact ⟨a' / 2, l' / 2, by go_num, by go_num, by omega, by omega, sec (by rw [← HG.out]; exact HS'.out), by trivial⟩
                        case measure => simp [intOf]; omega
                      · have HG := sec (strip_end (l := l') hgo)
                        by_cases hz : a' % 2 = 0
                        · have u1 : ((a' : Int) % 2 == 0) = true := by rw [beq_iff_eq]; omega
                          have u2 : ¬ 0 < (a' : Int) := by omega
                          clear hgo hz
                          go_wp2_with fail
                          go_roundw
                          case rel =>
                            refine ⟨j + 1, a' / 2, l' / 2, nodeH p x1, nodeH p x2, by go_num, by omega, by go_num, by go_num, rfl, rfl, by omega, by omega, by rw [nodeH_len]; omega, by rw [nodeH_len]; omega, sec ?_, hgz.trans (g3.trans g4)⟩
                            rw [HSR.out, ← HS'.out, HG.out]
                          case measure => simp [intOf]; omega
                        · have u1 : ((a' : Int) % 2 == 0) = false := by rw [beq_eq_false_iff_ne]; omega
                          clear hgo hz
                          go_wp2_with fail
                          go_roundw
                          case rel =>
                            refine ⟨j + 1, a' / 2, l' / 2, nodeH p x1, nodeH p x2, by go_num, by omega, by go_num, by go_num, rfl, rfl, by omega, by omega, by rw [nodeH_len]; omega, by rw [nodeH_len]; omega, sec ?_, hgz.trans (g3.trans g4)⟩
                            rw [HSR.out, ← HS'.out, HG.out]
                          case measure => simp [intOf]; omega
                  · by_cases he : a = l
                    · have hCK : exI a0 l0 (p0, p0) cs = exI ((strip a l).1 / 2) ((strip a l).2 / 2) (nodeH p x1, nodeH p x2) (cs.drop (j + 1)) := by
                        rw [hck, exI, if_neg hl0, if_pos (.inr he)]
                      have t1 : ((a : Int) % 2 == 1) = false := by rw [beq_eq_false_iff_ne]; omega
                      have t2 : ((a : Int) == (l : Int)) = true := by rw [beq_iff_eq]; omega
                      clear ho he hl0
                      have HT1 := sec (fun w => rtwo_any p x1 w hpl hx1)
                      have HT2 := sec (fun w => rtwo_any p x2 w hpl hx2)
                      have HSR := sec hCK
                      clear hCK hck
                      go_wp2_with (first
                        | (go_at_call 20; with_reducible refine Calls.mono (HT1.out _) ?_; rintro e w3 ⟨rfl, g3⟩; clear HT1)
                        | (go_at_call 20; with_reducible refine Calls.mono (HT2.out _) ?_; rintro e w4 ⟨rfl, g4⟩))
                      clear t1 t2
                      go_loopw [11, 12] (fun av lv wr' => ∃ a' l' : Nat, av = .int .i64 (a' : Int) ∧ lv = .int .i64 (l' : Int) ∧ a' ≤ l' ∧ l' ≤ 1099511627776 ∧ Sec (strip a' l' = strip a l) ∧ wr' = w4)
                        (fun av _ _ => (intOf av).toNat)
                      case atStart => exact ⟨a, l, rfl, rfl, hal, hl40, sec rfl, rfl⟩
                      case round =>
                        obtain ⟨a', l', rfl, rfl, hal', hl40', HS', rfl⟩ := hrel
                        by_cases hgo : a' % 2 = 0 ∧ 0 < a'
                        · have u1 : ((a' : Int) % 2 == 0) = true := by rw [beq_iff_eq]; omega
                          have u2 : 0 < (a' : Int) := by omega
                          have HG := sec (strip_go (l := l') hgo)
                          have HG2 := sec hgo
                          clear hgo
                          go_wp2_with fail
                          go_roundw
                          case rel => exact ⟨a' / 2, l' / 2, by go_num, by go_num, by omega, by omega, sec (by rw [← HG.out]; exact HS'.out), by trivial⟩
                          case measure => simp [intOf]; omega
                        · have HG := sec (strip_end (l := l') hgo)
                          by_cases hz : a' % 2 = 0
                          · have u1 : ((a' : Int) % 2 == 0) = true := by rw [beq_iff_eq]; omega
                            have u2 : ¬ 0 < (a' : Int) := by omega
                            clear hgo hz
                            go_wp2_with fail
                            go_roundw
                            case rel =>
                              refine ⟨j + 1, a' / 2, l' / 2, nodeH p x1, nodeH p x2, by go_num, by omega, by go_num, by go_num, rfl, rfl, by omega, by omega, by rw [nodeH_len]; omega, by rw [nodeH_len]; omega, sec ?_, hgz.trans (g3.trans g4)⟩
                              rw [HSR.out, ← HS'.out, HG.out]
                            case measure => simp [intOf]; omega
                          · have u1 : ((a' : Int) % 2 == 0) = false := by rw [beq_eq_false_iff_ne]; omega
                            clear hgo hz
                            go_wp2_with fail
                            go_roundw
                            case rel =>
                              refine ⟨j + 1, a' / 2, l' / 2, nodeH p x1, nodeH p x2, by go_num, by omega, by go_num, by go_num, rfl, rfl, by omega, by omega, by rw [nodeH_len]; omega, by rw [nodeH_len]; omega, sec ?_, hgz.trans (g3.trans g4)⟩
                              rw [HSR.out, ← HS'.out, HG.out]
                            case measure => simp [intOf]; omega
                    · have t1 : ((a : Int) % 2 == 1) = false := by rw [beq_eq_false_iff_ne]; omega
                      have t2 : ((a : Int) == (l : Int)) = false := by rw [beq_eq_false_iff_ne]; omega
                      have hCK : exI a0 l0 (p0, p0) cs = exI (a / 2) (l / 2) (x1, nodeH x2 p) (cs.drop (j + 1)) := by
                        rw [hck, exI, if_neg hl0, if_neg (by omega)]
                      have HT2 := sec (fun w => rtwo_any x2 p w hx2 hpl)
                      have HSR := sec hCK
                      clear hCK hck ho he hl0
                      go_wp2_with (go_at_call 20; with_reducible refine Calls.mono (HT2.out _) ?_; rintro e w3 ⟨rfl, g3⟩)
                      go_roundw
                      case rel => exact ⟨j + 1, a / 2, l / 2, x1, nodeH x2 p, by go_num, by omega, by go_num, by go_num, rfl, rfl, by omega, by omega, hx1, by rw [nodeH_len]; omega, HSR, hgz.trans g3⟩
                      case measure => simp [intOf]; omega
              · obtain rfl : j = K2 := by omega
                have hck := HK.out
                rw [List.drop_eq_nil_of_le (by have := HKL.out; omega), exI] at hck
                by_cases hl0 : l = 0
                · subst hl0
                  have HF : Sec (extB old (M : Int) root (N : Int) (p0 :: cs) = (x1 == old && x2 == root)) := sec (by rw [HEX.out, hck]; rfl)
                  clear hck hlt hj
                  go_wp2_with fail
                  all_goals
                    go_ret
                    refine ⟨?_, hgz0.trans hgz⟩
                    rw [HF.out]
                    simp [*]
                · have t0 : ((l : Int) == 0) = false := by rw [beq_eq_false_iff_ne]; omega
                  have HF : Sec (extB old (M : Int) root (N : Int) (p0 :: cs) = false) := sec (by rw [HEX.out, hck, if_neg hl0]; rfl)
                  clear hck hl0 hlt hj
                  go_wp2_with fail
                  go_ret
                  exact ⟨by rw [HF.out]; rfl, hgz0.trans hgz⟩
end Go.Proofs.YtjgkefjocakggaaDoor
