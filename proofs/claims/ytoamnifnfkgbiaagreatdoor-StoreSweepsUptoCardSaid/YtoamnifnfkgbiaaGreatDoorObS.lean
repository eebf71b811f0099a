/-
  object.named, object.line, object.empty by their contracts.
-/
import Derived.Test.YtoamnifnfkgbiaaGreatDoorObL
import Derived.Test.YtoamnifnfkgbiaaGreatDoorCFuncLo
import Derived.Test.YtoamnifnfkgbiaaGreatDoorNamed
namespace Go.Proofs.YtoamnifnfkgbiaaGreatDoor
set_option maxRecDepth 100000
open Go.RowKit
set_option linter.unusedVariables false
set_option maxHeartbeats 2000000 in
theorem namedC_any : Asks 184 (fun n => !entC n) := by
  intro R w hR
  show Calls Tryz.prog 184 #[.int .i32 (R : Int)] w fun e w' => e = .returned (.bool (!entC R)) ∧ Gr w w'

  by_cases h1 : R ≤ 32
  · have q1 : (R : Int) ≤ 32 := by omega
    have HX : Sec (entC R = false) := sec (by simp [entC]; omega)
    rw [HX.out]
    go_enter Tryz.func184, Tryz.ntmps184
    go_wp2_with fail
    go_ret
    exact ⟨rfl, Gr.refl _⟩
  · have q1 : ¬ (R : Int) ≤ 32 := by omega
    by_cases h2 : 126 < R
    · have q2 : (126 : Int) < (R : Int) := by omega
      have HX : Sec (entC R = false) := sec (by simp [entC]; omega)
      rw [HX.out]
      go_enter Tryz.func184, Tryz.ntmps184
      go_wp2_with fail
      go_ret
      exact ⟨rfl, Gr.refl _⟩
    · have q2 : ¬ (126 : Int) < (R : Int) := by omega
      by_cases h3 : R = 47
      · subst h3
        have HX : Sec (entC 47 = false) := sec (by decide)
        rw [HX.out]
        go_enter Tryz.func184, Tryz.ntmps184
        go_wp2_with fail
        go_ret
        exact ⟨rfl, Gr.refl _⟩
      · have q3 : ((R : Int) == 47) = false := by rw [beq_eq_false_iff_ne]; omega
        have q4 : ((R : Int) != 47) = true := by rw [bne_iff_ne]; omega
        have HX : Sec (entC R = true) := sec (by simp [entC, h3]; omega)
        clear h3
        rw [HX.out]
        go_enter Tryz.func184, Tryz.ntmps184
        go_wp2_with fail
        go_ret
        exact ⟨rfl, Gr.refl _⟩
set_option maxHeartbeats 2000000 in
theorem lineC_any : Asks 185 (fun n => n == 0) := by
  intro R w hR
  show Calls Tryz.prog 185 #[.int .i32 (R : Int)] w fun e w' => e = .returned (.bool (R == 0)) ∧ Gr w w'
  by_cases h : R = 0
  · subst h
    go_enter Tryz.func185, Tryz.ntmps185
    go_wp2_with fail
    go_ret
    exact ⟨rfl, Gr.refl _⟩
  · have HX : Sec ((R == 0) = false) := sec (by rw [beq_eq_false_iff_ne]; exact h)
    have q3 : ((R : Int) == 0) = false := by rw [beq_eq_false_iff_ne]; omega
    clear h
    rw [HX.out]
    go_enter Tryz.func185, Tryz.ntmps185
    go_wp2_with fail
    go_ret
    exact ⟨rfl, Gr.refl _⟩

theorem any_not {p : UInt8 → Bool} (s : List UInt8) : (s.any fun c => !p c) = !(s.all p) := by
  induction s with
  | nil => rfl
  | cons c r ih => simp [ih]
theorem lineC_not (s : List UInt8) : (s.any fun c => c.toNat == 0) = !(lineC s) := by
  unfold lineC
  rw [← any_not]
  congr 1
  funext c
  simp
theorem entB_of (s : List UInt8) : entB s = ((s.all fun c => entC c.toNat) && (!s.isEmpty && (decide (s.length ≤ 60) && (!(s == [46]) && !(s == [46, 46]))))) := by
  unfold entB
  cases s with
  | nil => rfl
  | cons c r =>
    have e : decide ((c :: r).length ≠ 0 ∧ (c :: r).length ≤ 60) = decide ((c :: r).length ≤ 60) := by simp
    rw [e]
    generalize decide ((c :: r).length ≤ 60) = x
    generalize ((c :: r).all fun c => entC c.toNat) = y
    cases x <;> cases y <;> simp

set_option maxHeartbeats 4000000 in
theorem entNamed_any (s : List UInt8) (w : World) (hs : s.length ≤ 4611686018427387904) :
    Calls Tryz.prog 144 #[.string (bs s)] w fun e w' => e = .returned (.bool (entB s)) ∧ Gr w w' := by
  have HC := sec (fun w => containsFunc_any 184 _ namedC_any (fun R h => by simp [entC]; omega) (enters_own Tryz.func184 (by kernel_rfl) rfl) s w hs)
  have HV := sec (entB_of s)
  rw [HV.out]
  clear HV
  have e1 : (s.any fun c => !entC c.toNat) = !(s.all fun c => entC c.toNat) := any_not s
  rw [e1] at HC
  obtain ⟨B, hB⟩ : ∃ B, B = s.all fun c => entC c.toNat := ⟨_, rfl⟩
  rw [← hB] at HC
  rw [← hB]
  clear hB e1
  cases B
  · skip
    go_enter Tryz.func144, Tryz.ntmps144
    go_wp2_with (go_at_call 169; refine Calls.mono (HC.out _) ?_; rintro e w1 ⟨rfl, g1⟩)
    go_ret
    exact ⟨by simp, g1⟩
  · cases h1 : s.isEmpty
    · have q0 : (s == []) = false := by cases s with | nil => cases h1 | cons a b => rfl
      by_cases h2 : s.length ≤ 60
      · have q1 : (s.length : Int) ≤ 60 := by omega
        cases h3 : (s == [46])
        · cases h4 : (s == [46, 46])
          · rw [decide_eq_true h2]
            go_enter Tryz.func144, Tryz.ntmps144
            go_wp2_with (go_at_call 169; refine Calls.mono (HC.out _) ?_; rintro e w1 ⟨rfl, g1⟩)
            go_ret
            exact ⟨by simp, g1⟩
          · rw [decide_eq_true h2]
            go_enter Tryz.func144, Tryz.ntmps144
            go_wp2_with (go_at_call 169; refine Calls.mono (HC.out _) ?_; rintro e w1 ⟨rfl, g1⟩)
            go_ret
            exact ⟨by simp, g1⟩
        · rw [decide_eq_true h2]
          go_enter Tryz.func144, Tryz.ntmps144
          go_wp2_with (go_at_call 169; refine Calls.mono (HC.out _) ?_; rintro e w1 ⟨rfl, g1⟩)
          go_ret
          exact ⟨by simp, g1⟩
      · have q1 : ¬ (s.length : Int) ≤ 60 := by omega
        rw [decide_eq_false h2]
        go_enter Tryz.func144, Tryz.ntmps144
        go_wp2_with (go_at_call 169; refine Calls.mono (HC.out _) ?_; rintro e w1 ⟨rfl, g1⟩)
        go_ret
        exact ⟨by simp, g1⟩
    · obtain rfl : s = [] := List.isEmpty_iff.1 h1
      go_enter Tryz.func144, Tryz.ntmps144
      go_wp2_with (go_at_call 169; refine Calls.mono (HC.out _) ?_; rintro e w1 ⟨rfl, g1⟩)
      go_ret
      exact ⟨by simp, g1⟩

set_option maxHeartbeats 4000000 in
theorem obLine_any (s : List UInt8) (w : World) (hs : s.length ≤ 4611686018427387904) :
    Calls Tryz.prog 145 #[.string (bs s)] w fun e w' => e = .returned (.bool (decide (s.length ≤ 4096) && lineC s)) ∧ Gr w w' := by
  have HC := sec (fun w => containsFuncLo_any 185 _ lineC_any (fun R h => by rw [beq_eq_false_iff_ne]; omega) (enters_own Tryz.func185 (by kernel_rfl) rfl) s w hs)
  rw [lineC_not] at HC
  obtain ⟨B, hB⟩ : ∃ B, B = lineC s := ⟨_, rfl⟩
  rw [← hB] at HC
  rw [← hB]
  clear hB
  by_cases h2 : s.length ≤ 4096
  · have q1 : (s.length : Int) ≤ 4096 := by omega
    rw [decide_eq_true h2]
    go_enter Tryz.func145, Tryz.ntmps145
    go_wp2_with (go_at_call 169; refine Calls.mono (HC.out _) ?_; rintro e w1 ⟨rfl, g1⟩)
    go_ret
    exact ⟨by simp, g1⟩
  · have q1 : ¬ (s.length : Int) ≤ 4096 := by omega
    rw [decide_eq_false h2]
    go_enter Tryz.func145, Tryz.ntmps145
    go_wp2_with fail
    go_ret
    exact ⟨rfl, Gr.refl _⟩

/-- one part is empty: how the walk asks -/
theorem len0 (n : Nat) : ((n : Int) == 0) = decide (n = 0) := by
  by_cases h : n = 0
  · subst h; rfl
  · rw [decide_eq_false h, beq_eq_false_iff_ne]; omega
theorem emp_len {α : Type} (l : List α) : l.isEmpty = decide (l.length = 0) := by cases l <;> simp

set_option maxHeartbeats 16000000 in
theorem obEmpty_any (o : Ob) (A : Option Addr) (c : Nat) (B : Option Addr) (d : Nat) (w : World) (hk : 1 ≤ o.kind ∧ o.kind ≤ 4) :
    Calls Tryz.prog 143 #[.agg (obA o A c B d)] w fun e w' => e = .returned (.bool (obEmp o)) ∧ Gr w w' := by
  obtain ⟨kd, dt, en, tr, pa, wh, no, ti, ta⟩ := o
  simp only at hk
  obtain ⟨wa, hwa⟩ : ∃ x, x = w.alloc (.cells (obA ⟨kd, dt, en, tr, pa, wh, no, ti, ta⟩ A c B d) 91) := ⟨_, rfl⟩
  have hb : Blk wa w.heap.size 91 (obA ⟨kd, dt, en, tr, pa, wh, no, ti, ta⟩ A c B d) := by rw [hwa]; exact Blk.new w _ _
  have hg0 : Gr w wa := by rw [hwa]; exact (Gr.refl w).alloc _
  have HCELL : Sec (∀ w', Gr wa w' → w'.cell? ⟨w.heap.size, 0, none⟩ = some (.int .i64 kd) ∧ w'.cell? ⟨w.heap.size, 1, none⟩ = some (.string (bs dt)) ∧ w'.cell? ⟨w.heap.size, 2, none⟩ = some (.slice A en.length c) ∧ w'.cell? ⟨w.heap.size, 3, none⟩ = some (.string (bs tr)) ∧ w'.cell? ⟨w.heap.size, 4, none⟩ = some (.slice B pa.length d) ∧ w'.cell? ⟨w.heap.size, 5, none⟩ = some (.string (bs wh)) ∧ w'.cell? ⟨w.heap.size, 6, none⟩ = some (.string (bs no)) ∧ w'.cell? ⟨w.heap.size, 7, none⟩ = some (.int .i64 ti) ∧ w'.cell? ⟨w.heap.size, 8, none⟩ = some (.string (bs ta))) := sec (fun w' g => ⟨(hb.gr g).cell 0, (hb.gr g).cell 1, (hb.gr g).cell 2, (hb.gr g).cell 3, (hb.gr g).cell 4, (hb.gr g).cell 5, (hb.gr g).cell 6, (hb.gr g).cell 7, (hb.gr g).cell 8⟩)
  obtain ⟨p, hp⟩ : ∃ p, p = w.heap.size := ⟨_, rfl⟩
  rw [← hp] at HCELL
  have HV : Sec (obEmp ⟨kd, dt, en, tr, pa, wh, no, ti, ta⟩ = _) := sec rfl
  obtain ⟨V, hV⟩ : ∃ V, V = obEmp ⟨kd, dt, en, tr, pa, wh, no, ti, ta⟩ := ⟨_, rfl⟩
  have HV := sec hV
  rw [← hV]
  clear hV hb
  obtain ⟨c0, c1, c2, c3, c4, c5, c6, c7, c8⟩ := HCELL.out wa (Gr.refl _)

  unfold obA at hwa
  unfold obA
  simp only at c0 c1 c2 c3 c4 c5 c6 c7 c8 hwa ⊢
  rcases (by omega : kd = 1 ∨ kd = 2 ∨ kd = 3 ∨ kd = 4) with rfl | rfl | rfl | rfl
  · skip
    cases hents : en.isEmpty
    · have qents : ((en.length : Int) == 0) = false := by rw [len0, ← emp_len, hents]
      have HX : Sec (V = false) := sec (by rw [HV.out]; simp [obEmp, hents])
      clear HV HCELL
      go_enter Tryz.func143, Tryz.ntmps143
      go_upto_region 1 with fail
      rw [← hwa, ← hp]
      clear hwa hp
      go_quiet (fail)
      go_wp2_with fail
      go_ret
      exact ⟨by rw [HX.out]; rfl, hg0.drewN _⟩
    · have qents : ((en.length : Int) == 0) = true := by rw [len0, ← emp_len, hents]
      cases htree : tr.isEmpty
      · have qtree : (tr == []) = false := by cases tr <;> simp_all
        have HX : Sec (V = false) := sec (by rw [HV.out]; simp [obEmp, hents, htree])
        clear HV HCELL
        go_enter Tryz.func143, Tryz.ntmps143
        go_upto_region 1 with fail
        rw [← hwa, ← hp]
        clear hwa hp
        go_quiet (fail)
        go_wp2_with fail
        go_ret
        exact ⟨by rw [HX.out]; rfl, hg0.drewN _⟩
      · have qtree : (tr == []) = true := by cases tr <;> simp_all
        cases hpars : pa.isEmpty
        · have qpars : ((pa.length : Int) == 0) = false := by rw [len0, ← emp_len, hpars]
          have HX : Sec (V = false) := sec (by rw [HV.out]; simp [obEmp, hents, htree, hpars])
          clear HV HCELL
          go_enter Tryz.func143, Tryz.ntmps143
          go_upto_region 1 with fail
          rw [← hwa, ← hp]
          clear hwa hp
          go_quiet (fail)
          go_wp2_with fail
          go_ret
          exact ⟨by rw [HX.out]; rfl, hg0.drewN _⟩
        · have qpars : ((pa.length : Int) == 0) = true := by rw [len0, ← emp_len, hpars]
          cases htime : decide (ti = 0)
          · have qtime : (ti == 0) = false := by rw [show (ti == 0) = decide (ti = 0) from rfl, htime]
            have HX : Sec (V = false) := sec (by rw [HV.out]; simp [obEmp, hents, htree, hpars, htime])
            clear HV HCELL
            go_enter Tryz.func143, Tryz.ntmps143
            go_upto_region 1 with fail
            rw [← hwa, ← hp]
            clear hwa hp
            go_quiet (fail)
            go_wp2_with fail
            go_ret
            exact ⟨by rw [HX.out]; rfl, hg0.drewN _⟩
          · have qtime : (ti == 0) = true := by rw [show (ti == 0) = decide (ti = 0) from rfl, htime]
            cases htarget : ta.isEmpty
            · have qtarget : (ta == []) = false := by cases ta <;> simp_all
              have HX : Sec (V = false) := sec (by rw [HV.out]; simp [obEmp, hents, htree, hpars, htime, htarget])
              clear HV HCELL
              go_enter Tryz.func143, Tryz.ntmps143
              go_upto_region 1 with fail
              rw [← hwa, ← hp]
              clear hwa hp
              go_quiet (fail)
              go_wp2_with fail
              go_ret
              exact ⟨by rw [HX.out]; rfl, hg0.drewN _⟩
            · have qtarget : (ta == []) = true := by cases ta <;> simp_all
              cases hwho : wh.isEmpty
              · have qwho : (wh == []) = false := by cases wh <;> simp_all
                have HX : Sec (V = false) := sec (by rw [HV.out]; simp [obEmp, hents, htree, hpars, htime, htarget, hwho])
                clear HV HCELL
                go_enter Tryz.func143, Tryz.ntmps143
                go_upto_region 1 with fail
                rw [← hwa, ← hp]
                clear hwa hp
                go_quiet (fail)
                go_wp2_with fail
                go_ret
                exact ⟨by rw [HX.out]; rfl, hg0.drewN _⟩
              · have qwho : (wh == []) = true := by cases wh <;> simp_all
                cases hnote : no.isEmpty
                · have qnote : (no == []) = false := by cases no <;> simp_all
                  have HX : Sec (V = false) := sec (by rw [HV.out]; simp [obEmp, hents, htree, hpars, htime, htarget, hwho, hnote])
                  clear HV HCELL
                  go_enter Tryz.func143, Tryz.ntmps143
                  go_upto_region 1 with fail
                  rw [← hwa, ← hp]
                  clear hwa hp
                  go_quiet (fail)
                  go_wp2_with fail
                  go_ret
                  exact ⟨by rw [HX.out]; rfl, hg0.drewN _⟩
                · have qnote : (no == []) = true := by cases no <;> simp_all
                  have HX : Sec (V = true) := sec (by rw [HV.out]; simp [obEmp, hents, htree, hpars, htime, htarget, hwho, hnote])
                  clear HV HCELL
                  go_enter Tryz.func143, Tryz.ntmps143
                  go_upto_region 1 with fail
                  rw [← hwa, ← hp]
                  clear hwa hp
                  go_quiet (fail)
                  go_wp2_with fail
                  go_ret
                  exact ⟨by rw [HX.out]; rfl, hg0.drewN _⟩
  · skip
    cases hdata : dt.isEmpty
    · have qdata : (dt == []) = false := by cases dt <;> simp_all
      have HX : Sec (V = false) := sec (by rw [HV.out]; simp [obEmp, hdata])
      clear HV HCELL
      go_enter Tryz.func143, Tryz.ntmps143
      go_upto_region 1 with fail
      rw [← hwa, ← hp]
      clear hwa hp
      go_quiet (fail)
      go_wp2_with fail
      go_ret
      exact ⟨by rw [HX.out]; rfl, hg0.drewN _⟩
    · have qdata : (dt == []) = true := by cases dt <;> simp_all
      cases htree : tr.isEmpty
      · have qtree : (tr == []) = false := by cases tr <;> simp_all
        have HX : Sec (V = false) := sec (by rw [HV.out]; simp [obEmp, hdata, htree])
        clear HV HCELL
        go_enter Tryz.func143, Tryz.ntmps143
        go_upto_region 1 with fail
        rw [← hwa, ← hp]
        clear hwa hp
        go_quiet (fail)
        go_wp2_with fail
        go_ret
        exact ⟨by rw [HX.out]; rfl, hg0.drewN _⟩
      · have qtree : (tr == []) = true := by cases tr <;> simp_all
        cases hpars : pa.isEmpty
        · have qpars : ((pa.length : Int) == 0) = false := by rw [len0, ← emp_len, hpars]
          have HX : Sec (V = false) := sec (by rw [HV.out]; simp [obEmp, hdata, htree, hpars])
          clear HV HCELL
          go_enter Tryz.func143, Tryz.ntmps143
          go_upto_region 1 with fail
          rw [← hwa, ← hp]
          clear hwa hp
          go_quiet (fail)
          go_wp2_with fail
          go_ret
          exact ⟨by rw [HX.out]; rfl, hg0.drewN _⟩
        · have qpars : ((pa.length : Int) == 0) = true := by rw [len0, ← emp_len, hpars]
          cases htime : decide (ti = 0)
          · have qtime : (ti == 0) = false := by rw [show (ti == 0) = decide (ti = 0) from rfl, htime]
            have HX : Sec (V = false) := sec (by rw [HV.out]; simp [obEmp, hdata, htree, hpars, htime])
            clear HV HCELL
            go_enter Tryz.func143, Tryz.ntmps143
            go_upto_region 1 with fail
            rw [← hwa, ← hp]
            clear hwa hp
            go_quiet (fail)
            go_wp2_with fail
            go_ret
            exact ⟨by rw [HX.out]; rfl, hg0.drewN _⟩
          · have qtime : (ti == 0) = true := by rw [show (ti == 0) = decide (ti = 0) from rfl, htime]
            cases htarget : ta.isEmpty
            · have qtarget : (ta == []) = false := by cases ta <;> simp_all
              have HX : Sec (V = false) := sec (by rw [HV.out]; simp [obEmp, hdata, htree, hpars, htime, htarget])
              clear HV HCELL
              go_enter Tryz.func143, Tryz.ntmps143
              go_upto_region 1 with fail
              rw [← hwa, ← hp]
              clear hwa hp
              go_quiet (fail)
              go_wp2_with fail
              go_ret
              exact ⟨by rw [HX.out]; rfl, hg0.drewN _⟩
            · have qtarget : (ta == []) = true := by cases ta <;> simp_all
              cases hwho : wh.isEmpty
              · have qwho : (wh == []) = false := by cases wh <;> simp_all
                have HX : Sec (V = false) := sec (by rw [HV.out]; simp [obEmp, hdata, htree, hpars, htime, htarget, hwho])
                clear HV HCELL
                go_enter Tryz.func143, Tryz.ntmps143
                go_upto_region 1 with fail
                rw [← hwa, ← hp]
                clear hwa hp
                go_quiet (fail)
                go_wp2_with fail
                go_ret
                exact ⟨by rw [HX.out]; rfl, hg0.drewN _⟩
              · have qwho : (wh == []) = true := by cases wh <;> simp_all
                cases hnote : no.isEmpty
                · have qnote : (no == []) = false := by cases no <;> simp_all
                  have HX : Sec (V = false) := sec (by rw [HV.out]; simp [obEmp, hdata, htree, hpars, htime, htarget, hwho, hnote])
                  clear HV HCELL
                  go_enter Tryz.func143, Tryz.ntmps143
                  go_upto_region 1 with fail
                  rw [← hwa, ← hp]
                  clear hwa hp
                  go_quiet (fail)
                  go_wp2_with fail
                  go_ret
                  exact ⟨by rw [HX.out]; rfl, hg0.drewN _⟩
                · have qnote : (no == []) = true := by cases no <;> simp_all
                  have HX : Sec (V = true) := sec (by rw [HV.out]; simp [obEmp, hdata, htree, hpars, htime, htarget, hwho, hnote])
                  clear HV HCELL
                  go_enter Tryz.func143, Tryz.ntmps143
                  go_upto_region 1 with fail
                  rw [← hwa, ← hp]
                  clear hwa hp
                  go_quiet (fail)
                  go_wp2_with fail
                  go_ret
                  exact ⟨by rw [HX.out]; rfl, hg0.drewN _⟩
  · skip
    cases hdata : dt.isEmpty
    · have qdata : (dt == []) = false := by cases dt <;> simp_all
      have HX : Sec (V = false) := sec (by rw [HV.out]; simp [obEmp, hdata])
      clear HV HCELL
      go_enter Tryz.func143, Tryz.ntmps143
      go_upto_region 1 with fail
      rw [← hwa, ← hp]
      clear hwa hp
      go_quiet (fail)
      go_wp2_with fail
      go_ret
      exact ⟨by rw [HX.out]; rfl, hg0.drewN _⟩
    · have qdata : (dt == []) = true := by cases dt <;> simp_all
      cases hents : en.isEmpty
      · have qents : ((en.length : Int) == 0) = false := by rw [len0, ← emp_len, hents]
        have HX : Sec (V = false) := sec (by rw [HV.out]; simp [obEmp, hdata, hents])
        clear HV HCELL
        go_enter Tryz.func143, Tryz.ntmps143
        go_upto_region 1 with fail
        rw [← hwa, ← hp]
        clear hwa hp
        go_quiet (fail)
        go_wp2_with fail
        go_ret
        exact ⟨by rw [HX.out]; rfl, hg0.drewN _⟩
      · have qents : ((en.length : Int) == 0) = true := by rw [len0, ← emp_len, hents]
        cases htarget : ta.isEmpty
        · have qtarget : (ta == []) = false := by cases ta <;> simp_all
          have HX : Sec (V = false) := sec (by rw [HV.out]; simp [obEmp, hdata, hents, htarget])
          clear HV HCELL
          go_enter Tryz.func143, Tryz.ntmps143
          go_upto_region 1 with fail
          rw [← hwa, ← hp]
          clear hwa hp
          go_quiet (fail)
          go_wp2_with fail
          go_ret
          exact ⟨by rw [HX.out]; rfl, hg0.drewN _⟩
        · have qtarget : (ta == []) = true := by cases ta <;> simp_all
          have HX : Sec (V = true) := sec (by rw [HV.out]; simp [obEmp, hdata, hents, htarget])
          clear HV HCELL
          go_enter Tryz.func143, Tryz.ntmps143
          go_upto_region 1 with fail
          rw [← hwa, ← hp]
          clear hwa hp
          go_quiet (fail)
          go_wp2_with fail
          go_ret
          exact ⟨by rw [HX.out]; rfl, hg0.drewN _⟩
  · skip
    cases hdata : dt.isEmpty
    · have qdata : (dt == []) = false := by cases dt <;> simp_all
      have HX : Sec (V = false) := sec (by rw [HV.out]; simp [obEmp, hdata])
      clear HV HCELL
      go_enter Tryz.func143, Tryz.ntmps143
      go_upto_region 1 with fail
      rw [← hwa, ← hp]
      clear hwa hp
      go_quiet (fail)
      go_wp2_with fail
      go_ret
      exact ⟨by rw [HX.out]; rfl, hg0.drewN _⟩
    · have qdata : (dt == []) = true := by cases dt <;> simp_all
      cases hents : en.isEmpty
      · have qents : ((en.length : Int) == 0) = false := by rw [len0, ← emp_len, hents]
        have HX : Sec (V = false) := sec (by rw [HV.out]; simp [obEmp, hdata, hents])
        clear HV HCELL
        go_enter Tryz.func143, Tryz.ntmps143
        go_upto_region 1 with fail
        rw [← hwa, ← hp]
        clear hwa hp
        go_quiet (fail)
        go_wp2_with fail
        go_ret
        exact ⟨by rw [HX.out]; rfl, hg0.drewN _⟩
      · have qents : ((en.length : Int) == 0) = true := by rw [len0, ← emp_len, hents]
        cases htree : tr.isEmpty
        · have qtree : (tr == []) = false := by cases tr <;> simp_all
          have HX : Sec (V = false) := sec (by rw [HV.out]; simp [obEmp, hdata, hents, htree])
          clear HV HCELL
          go_enter Tryz.func143, Tryz.ntmps143
          go_upto_region 1 with fail
          rw [← hwa, ← hp]
          clear hwa hp
          go_quiet (fail)
          go_wp2_with fail
          go_ret
          exact ⟨by rw [HX.out]; rfl, hg0.drewN _⟩
        · have qtree : (tr == []) = true := by cases tr <;> simp_all
          cases hpars : pa.isEmpty
          · have qpars : ((pa.length : Int) == 0) = false := by rw [len0, ← emp_len, hpars]
            have HX : Sec (V = false) := sec (by rw [HV.out]; simp [obEmp, hdata, hents, htree, hpars])
            clear HV HCELL
            go_enter Tryz.func143, Tryz.ntmps143
            go_upto_region 1 with fail
            rw [← hwa, ← hp]
            clear hwa hp
            go_quiet (fail)
            go_wp2_with fail
            go_ret
            exact ⟨by rw [HX.out]; rfl, hg0.drewN _⟩
          · have qpars : ((pa.length : Int) == 0) = true := by rw [len0, ← emp_len, hpars]
            cases htime : decide (ti = 0)
            · have qtime : (ti == 0) = false := by rw [show (ti == 0) = decide (ti = 0) from rfl, htime]
              have HX : Sec (V = false) := sec (by rw [HV.out]; simp [obEmp, hdata, hents, htree, hpars, htime])
              clear HV HCELL
              go_enter Tryz.func143, Tryz.ntmps143
              go_upto_region 1 with fail
              rw [← hwa, ← hp]
              clear hwa hp
              go_quiet (fail)
              go_wp2_with fail
              go_ret
              exact ⟨by rw [HX.out]; rfl, hg0.drewN _⟩
            · have qtime : (ti == 0) = true := by rw [show (ti == 0) = decide (ti = 0) from rfl, htime]
              have HX : Sec (V = true) := sec (by rw [HV.out]; simp [obEmp, hdata, hents, htree, hpars, htime])
              clear HV HCELL
              go_enter Tryz.func143, Tryz.ntmps143
              go_upto_region 1 with fail
              rw [← hwa, ← hp]
              clear hwa hp
              go_quiet (fail)
              go_wp2_with fail
              go_ret
              exact ⟨by rw [HX.out]; rfl, hg0.drewN _⟩
end Go.Proofs.YtoamnifnfkgbiaaGreatDoor
