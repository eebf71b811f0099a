/-
  law.DiskSaves: the walk.
-/
import Derived.Test.YtcfghoohdlljkaaDiskSave
import Derived.Test.YtcfghoohdlljkaaDiskRSave
namespace Go.Proofs.Ytcfghoohdlljkaa
open Go.RowKit
set_option linter.unusedVariables false

theorem saveR_sz (fs : List Fl) (f : Int) (name s : List UInt8) (hl : name.length ≤ 1048576) (hz : Sz fs) : Sz (saveR fs f name s).1 := by
  have hd : (name ++ dotNew).length ≤ 1099511627776 := by rw [List.length_append]; simp only [dotNew, List.length_cons, List.length_nil]; omega
  have h0 : Sz (save0 fs f name).1 := by
    unfold save0
    split
    · exact stepR_sz (rmF_sz _) _ hz
    · exact hz
  have h1 : Sz (save1 fs f name s).1 := by
    unfold save1
    split
    · exact stepR_sz (wrF_sz _ _ hd) _ h0
    · exact h0
  have h2 : Sz (save2 fs f name s).1 := by
    unfold save2
    split
    · exact stepR_sz (syF_sz _) _ h1
    · exact h1
  have h3 : Sz (save3 fs f name s).1 := by
    unfold save3
    split
    · exact stepR_sz (rnF_sz _ _ (by omega)) _ h2
    · exact h2
  unfold saveR
  split
  · split
    · exact h3
    · exact hz
  · exact hz

set_option maxRecDepth 100000 in
set_option maxHeartbeats 4000000 in
theorem diskSaves_walk (A : Option Addr) (cap : Nat) (fs : List Fl) (f : Int) (name s : List UInt8) (W : World) (hd : DiskIn W A cap fs f) (hl1 : name.length ≤ 1048576) (hl2 : s.length ≤ 1048576) :
    Calls Try.prog 6 #[diskV A fs.length cap f, .string (bs name), .string (bs s)] W fun e W' => e = .returned (.bool true) ∧ Gr W W' := by
  obtain ⟨hrow, hlen, hsize, hnil, hfuse, hcap⟩ := hd
  have hs : ∀ f ∈ fs, f.1.length ≤ 1099511627776 ∧ f.2.1.length ≤ 1099511627776 ∧ f.2.2.length ≤ 1099511627776 := fun x hx => by have := hsize x hx; omega
  have hz : Sz fs := ⟨hlen, hs⟩
  obtain ⟨n, hn⟩ : ∃ n, n = fs.length := ⟨_, rfl⟩
  rw [← hn] at hrow hlen hnil hcap
  rw [← hn]
  have hn40 : n ≤ 1099511627776 := by omega
  have hg0 := (Gr.refl W).alloc (.cells #[.slice A n cap, .int .i64 f] 37)
  have hb1 := Blk.new W 37 #[.slice A n cap, .int .i64 f]
  have hrow1 := hrow.gr hg0
  obtain ⟨wa, hwa⟩ : ∃ x, x = W.alloc (.cells #[.slice A n cap, .int .i64 f] 37) := ⟨_, rfl⟩
  rw [← hwa] at hg0 hb1 hrow1
  obtain ⟨p, hp⟩ : ∃ p, p = W.heap.size := ⟨_, rfl⟩
  rw [← hp] at hb1
  have hRz := (saveR_sz fs f name s hl1 hz).1
  obtain ⟨R, hR⟩ : ∃ R, R = saveR fs f name s := ⟨_, rfl⟩
  rw [← hR] at hRz
  have HCp : Sec (∀ w, Gr wa w → Calls Try.prog 17 #[diskV A n cap f] w fun e w' => ∃ A' cap', e = .returned (diskV A' n cap' f) ∧ FRow w' A' n fs ∧ n ≤ cap' ∧ (A' = none → n = 0 ∧ cap' = 0) ∧ Gr w w') := sec (fun w g => by
    refine (copyDisk_any fs A n cap f w hn40 (hrow1.gr g) hnil).mono ?_
    rintro e w' ⟨A', cap', rfl, ho, hA', g'⟩
    exact ⟨A', cap', rfl, Row.own ho, own_ncap ho, hA', g'⟩)
  have HSv : Sec (∀ w A' cap', FRow w A' n fs → n ≤ cap' → (A' = none → n = 0 ∧ cap' = 0) → Calls Try.prog 31 #[diskV A' n cap' f, .string (bs name), .string (bs s)] w fun e w' => ∃ A2 n2 cap2, e = .returned (.tuple #[diskV A2 n2 cap2 R.2.1, .int .i64 R.2.2]) ∧ FRow w' A2 n2 R.1 ∧ Gr w w') := sec (fun w A' cap' h hc hA => by
    rw [hR]
    refine (save_any name s fs A' n cap' f w h hc hA hz hfuse hl1 (by omega)).mono ?_
    rintro e w' ⟨A2, n2, cap2, rfl, g, _, ha⟩
    exact ⟨A2, n2, cap2, rfl, StepPost.row h g ha, g⟩)
  have HRs : Sec (∀ w, Gr wa w → Calls Try.prog 32 #[diskV A n cap f, .string (bs name), .string (bs s)] w fun e w' => ∃ A2 n2 cap2, e = .returned (.tuple #[diskV A2 n2 cap2 R.2.1, .int .i64 R.2.2]) ∧ FRow w' A2 n2 R.1 ∧ Gr w w') := sec (fun w g => by
    rw [hR]
    refine (rsave_any name s fs A n cap f w (hrow1.gr g) hcap hnil hz hfuse hl1 (by omega)).mono ?_
    rintro e w' ⟨A2, n2, cap2, rfl, g', _, ha⟩
    exact ⟨A2, n2, cap2, rfl, StepPost.row (hrow1.gr g) g' ha, g'⟩)
  obtain ⟨gs, u, e2⟩ := R
  have HSd : Sec (∀ w A1 n1 cap1 A2 n2 cap2, FRow w A1 n1 gs → FRow w A2 n2 gs → Calls Try.prog 21 #[diskV A1 n1 cap1 u, diskV A2 n2 cap2 u] w fun e w' => e = .returned (.bool true) ∧ Gr w w') := sec (fun w A1 n1 cap1 A2 n2 cap2 h1 h2 => by
    have e1 := h1.len
    have e2 := h2.len
    obtain rfl : n1 = n2 := by omega
    simp only at hRz
    exact sameDisk_any gs A1 A2 n1 cap1 cap2 u w (by omega) h1 h2)
  have c0 : wa.cell? ⟨p, 0, none⟩ = some (.slice A n cap) := hb1.cell 0
  have c1 : wa.cell? ⟨p, 1, none⟩ = some (.int .i64 f) := hb1.cell 1
  have HB := sec hb1
  clear hs hz hsize hrow hrow1 hb1 hnil hn hlen hR hl1 hl2 hRz hcap hfuse
  unfold diskV at HCp HSv HRs HSd
  unfold diskV
  go_enter Try.func6, Try.ntmps6
  go_wp2_with (first
    | (rw [← hwa, ← hp]; clear hwa hp; go_wp2_with fail)
    | (go_at_call 17; refine Calls.mono (HCp.out _ (Gr.refl _)) ?_; rintro e w1 ⟨A1, cap1, rfl, h1, hc1, hA1, g1⟩)
    | (go_at_call 31; refine Calls.mono (HSv.out _ _ _ h1 hc1 hA1) ?_; rintro e w5 ⟨A5, n5, cap5, rfl, h5, g5⟩; have gg5 : Gr wa w5 := g1.trans g5; have c05 : (w5.alloc (.cells #[.slice A5 n5 cap5, .int .i64 u] 37)).cell? ⟨p, 0, none⟩ = some (.slice A n cap) := (HB.out.gr (gg5.alloc _)).cell 0; have c15 : (w5.alloc (.cells #[.slice A5 n5 cap5, .int .i64 u] 37)).cell? ⟨p, 1, none⟩ = some (.int .i64 f) := (HB.out.gr (gg5.alloc _)).cell 1; have hq5 := Blk.new w5 37 #[.slice A5 n5 cap5, .int .i64 u]; have h5' := h5.gr ((Gr.refl w5).alloc (.cells #[.slice A5 n5 cap5, .int .i64 u] 37)))
    | (go_at_call 32; refine Calls.mono (HRs.out _ (gg5.alloc _)) ?_; rintro e w6 ⟨A6, n6, cap6, rfl, h6, g6⟩; have gg6 : Gr wa (w6.alloc (.cells #[.slice A6 n6 cap6, .int .i64 u] 37)) := ((gg5.alloc _).trans g6).alloc _; have d0 : (w6.alloc (.cells #[.slice A6 n6 cap6, .int .i64 u] 37)).cell? ⟨w5.heap.size, 0, none⟩ = some (.slice A5 n5 cap5) := ((hq5.gr g6).alloc _).cell 0; have d1 : (w6.alloc (.cells #[.slice A6 n6 cap6, .int .i64 u] 37)).cell? ⟨w5.heap.size, 1, none⟩ = some (.int .i64 u) := ((hq5.gr g6).alloc _).cell 1; have h5'' := (h5'.gr g6).gr ((Gr.refl w6).alloc (.cells #[.slice A6 n6 cap6, .int .i64 u] 37)); have h6' := h6.gr ((Gr.refl w6).alloc (.cells #[.slice A6 n6 cap6, .int .i64 u] 37)))
    | (go_at_call 21; refine Calls.mono (HSd.out _ _ _ _ _ _ _ h5'' h6') ?_; rintro e w7 ⟨rfl, g7⟩)
    | (go_at_call 22; refine Calls.mono (disks_any _) ?_; rintro e w8 ⟨rfl, g8⟩))
  go_ret
  exact ⟨rfl, hg0.trans (gg6.trans (g7.trans g8))⟩
end Go.Proofs.Ytcfghoohdlljkaa
