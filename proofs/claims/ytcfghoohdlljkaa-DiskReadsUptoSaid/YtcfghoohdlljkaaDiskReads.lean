/-
  law.DiskReads: the walk.
-/
import Derived.Test.YtcfghoohdlljkaaDisks
import Derived.Test.YtcfghoohdlljkaaDiskRead
import Derived.Test.YtcfghoohdlljkaaOpenDk
namespace Go.Proofs.Ytcfghoohdlljkaa
open Go.RowKit
set_option linter.unusedVariables false

set_option maxRecDepth 100000 in
set_option maxHeartbeats 4000000 in
theorem diskReads_walk (A : Option Addr) (cap : Nat) (fs : List Fl) (f : Int) (name : List UInt8) (keep : Int) (W : World) (hd : DiskIn W A cap fs f) (hl1 : name.length ≤ 1048576) (hk : -9223372036854775808 ≤ keep ∧ keep ≤ 9223372036854775807) :
    Calls Try.prog 4 #[diskV A fs.length cap f, .string (bs name), .int .i64 keep] W fun e W' => e = .returned (.bool true) ∧ Gr W W' := by
  obtain ⟨hrow, hlen, hsize, hnil, hfuse⟩ := hd
  obtain ⟨n, hn⟩ : ∃ n, n = fs.length := ⟨_, rfl⟩
  rw [← hn] at hrow hlen hnil
  rw [← hn]
  have hs : ∀ f ∈ fs, f.1.length ≤ 1099511627776 ∧ f.2.1.length ≤ 1099511627776 ∧ f.2.2.length ≤ 1099511627776 := fun x hx => by have := hsize x hx; omega
  have hn40 : n ≤ 1099511627776 := by omega
  have hg0 := (Gr.refl W).alloc (.cells #[.slice A n cap, .int .i64 f] 37)
  have hb1 := Blk.new W 37 #[.slice A n cap, .int .i64 f]
  have hrow1 := hrow.gr hg0
  obtain ⟨wa, hwa⟩ : ∃ x, x = W.alloc (.cells #[.slice A n cap, .int .i64 f] 37) := ⟨_, rfl⟩
  rw [← hwa] at hg0 hb1 hrow1
  obtain ⟨p, hp⟩ : ∃ p, p = W.heap.size := ⟨_, rfl⟩
  rw [← hp] at hb1
  obtain ⟨R1, hR1⟩ : ∃ R, R = readR fs name := ⟨_, rfl⟩
  obtain ⟨R2, hR2⟩ : ∃ R, R = crashR fs f keep := ⟨_, rfl⟩
  have HCp : Sec (∀ w, Gr wa w → Calls Try.prog 17 #[diskV A n cap f] w fun e w' => ∃ A' cap', e = .returned (diskV A' n cap' f) ∧ FRow w' A' n fs ∧ (A' = none → n = 0 ∧ cap' = 0) ∧ Gr w w') := sec (fun w g => by
    refine (copyDisk_any fs A n cap f w hn40 (hrow1.gr g) hnil).mono ?_
    rintro e w' ⟨A', cap', rfl, ho, hA', g'⟩
    exact ⟨A', cap', rfl, Row.own ho, hA', g'⟩)
  have HRd : Sec (∀ w A' cap', FRow w A' n fs → Calls Try.prog 16 #[diskV A' n cap' f, .string (bs name)] w fun e w' => e = .returned (.tuple #[.string (bs R1.1), .int .i64 R1.2]) ∧ Gr w w') := sec (fun w A' cap' h => by
    rw [hR1]; exact read_any fs name A' n cap' f w hn40 h hs)
  have HRf : Sec (∀ w, Gr wa w → Calls Try.prog 18 #[diskV A n cap f, .string (bs name)] w fun e w' => e = .returned (.tuple #[.string (bs R1.1), .int .i64 R1.2]) ∧ Gr w w') := sec (fun w g => by
    rw [hR1]; exact rread_any fs name A n cap f w hn40 (hrow1.gr g) hs)
  have HCr : Sec (∀ w A' cap', FRow w A' n fs → (A' = none → n = 0 ∧ cap' = 0) → Calls Try.prog 19 #[diskV A' n cap' f, .int .i64 keep] w fun e w' => ∃ A2 cap2, e = .returned (.tuple #[diskV A2 n cap2 R2.2.1, .int .i64 R2.2.2]) ∧ FRow w' A2 n R2.1 ∧ Gr w w') := sec (fun w A' cap' h hA => by
    rw [hR2]; exact crash_any fs A' n cap' f keep w hn40 h hA hs)
  have HCf : Sec (∀ w, Gr wa w → Calls Try.prog 20 #[diskV A n cap f, .int .i64 keep] w fun e w' => ∃ A2 cap2, e = .returned (.tuple #[diskV A2 n cap2 R2.2.1, .int .i64 R2.2.2]) ∧ FRow w' A2 n R2.1 ∧ Gr w w') := sec (fun w g => by
    rw [hR2]; exact rcrash_any fs A n cap f keep w hn40 (hrow1.gr g) hnil hs)
  obtain ⟨s1, e1⟩ := R1
  obtain ⟨gs, u, e2⟩ := R2
  have HSd : Sec (∀ w A1 cap1 A2 cap2, FRow w A1 n gs → FRow w A2 n gs → Calls Try.prog 21 #[diskV A1 n cap1 u, diskV A2 n cap2 u] w fun e w' => e = .returned (.bool true) ∧ Gr w w') := sec (fun w A1 cap1 A2 cap2 h1 h2 => sameDisk_any gs A1 A2 n cap1 cap2 u w (by omega) h1 h2)
  have c0 : wa.cell? ⟨p, 0, none⟩ = some (.slice A n cap) := hb1.cell 0
  have c1 : wa.cell? ⟨p, 1, none⟩ = some (.int .i64 f) := hb1.cell 1
  have HB := sec hb1
  clear hs hsize hrow hrow1 hb1 hnil hn hlen hR1 hR2 hl1
  unfold diskV at HCp HRd HRf HCr HCf HSd
  unfold diskV
  go_enter Try.func4, Try.ntmps4
  go_wp2_with (first
    | (rw [← hwa, ← hp]; clear hwa hp; go_wp2_with (first
      | (go_at_call 17; refine Calls.mono (HCp.out _ (Gr.refl _)) ?_; rintro e w1 ⟨A1, cap1, rfl, h1, hA1, g1⟩)
      | (go_at_call 16; refine Calls.mono (HRd.out _ _ _ h1) ?_; rintro e w2 ⟨rfl, g2⟩; have gg2 : Gr wa w2 := g1.trans g2; have c02 : w2.cell? ⟨p, 0, none⟩ = some (.slice A n cap) := (HB.out.gr gg2).cell 0; have c12 : w2.cell? ⟨p, 1, none⟩ = some (.int .i64 f) := (HB.out.gr gg2).cell 1)
      | (go_at_call 18; refine Calls.mono (HRf.out _ gg2) ?_; rintro e w3 ⟨rfl, g3⟩; have gg3 : Gr wa w3 := gg2.trans g3; have c03 : w3.cell? ⟨p, 0, none⟩ = some (.slice A n cap) := (HB.out.gr gg3).cell 0; have c13 : w3.cell? ⟨p, 1, none⟩ = some (.int .i64 f) := (HB.out.gr gg3).cell 1)
      | (go_at_call 17; refine Calls.mono (HCp.out _ gg3) ?_; rintro e w4 ⟨A3, cap3, rfl, h3, hA3, g4⟩; have gg4 : Gr wa w4 := gg3.trans g4)
      | (go_at_call 19; refine Calls.mono (HCr.out _ _ _ h3 hA3) ?_; rintro e w5 ⟨A5, cap5, rfl, h5, g5⟩; have gg5 : Gr wa w5 := gg4.trans g5; have c05 : (w5.alloc (.cells #[.slice A5 n cap5, .int .i64 u] 37)).cell? ⟨p, 0, none⟩ = some (.slice A n cap) := (HB.out.gr (gg5.alloc _)).cell 0; have c15 : (w5.alloc (.cells #[.slice A5 n cap5, .int .i64 u] 37)).cell? ⟨p, 1, none⟩ = some (.int .i64 f) := (HB.out.gr (gg5.alloc _)).cell 1; have hq5 := Blk.new w5 37 #[.slice A5 n cap5, .int .i64 u]; have h5' := h5.gr ((Gr.refl w5).alloc (.cells #[.slice A5 n cap5, .int .i64 u] 37)))
      | (go_at_call 20; refine Calls.mono (HCf.out _ (gg5.alloc _)) ?_; rintro e w6 ⟨A6, cap6, rfl, h6, g6⟩; have gg6 : Gr wa (w6.alloc (.cells #[.slice A6 n cap6, .int .i64 u] 37)) := ((gg5.alloc _).trans g6).alloc _; have d0 : (w6.alloc (.cells #[.slice A6 n cap6, .int .i64 u] 37)).cell? ⟨w5.heap.size, 0, none⟩ = some (.slice A5 n cap5) := ((hq5.gr g6).alloc _).cell 0; have d1 : (w6.alloc (.cells #[.slice A6 n cap6, .int .i64 u] 37)).cell? ⟨w5.heap.size, 1, none⟩ = some (.int .i64 u) := ((hq5.gr g6).alloc _).cell 1; have h5'' := (h5'.gr g6).gr ((Gr.refl w6).alloc (.cells #[.slice A6 n cap6, .int .i64 u] 37)); have h6' := h6.gr ((Gr.refl w6).alloc (.cells #[.slice A6 n cap6, .int .i64 u] 37)))
      | (go_at_call 21; refine Calls.mono (HSd.out _ _ _ _ _ h5'' h6') ?_; rintro e w7 ⟨rfl, g7⟩)
      | (go_at_call 22; refine Calls.mono (disks_any _) ?_; rintro e w8 ⟨rfl, g8⟩))))
  go_ret
  exact ⟨rfl, hg0.trans (gg6.trans (g7.trans g8))⟩
end Go.Proofs.Ytcfghoohdlljkaa
