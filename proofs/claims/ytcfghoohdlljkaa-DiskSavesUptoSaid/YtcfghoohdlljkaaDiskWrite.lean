/-
  disk.Write by its contract.
-/
import Derived.Test.YtcfghoohdlljkaaDiskWrC
namespace Go.Proofs.Ytcfghoohdlljkaa
open Go.RowKit
set_option linter.unusedVariables false

set_option maxRecDepth 100000 in
set_option maxHeartbeats 4000000 in
theorem write_any (name s : List UInt8) (fs : List Fl) (A : Option Addr) (n cap : Nat) (f : Int) (w : World) (hn : n ≤ 1099511627776) (hx : FRow w A n fs) (hA : A = none → n = 0 ∧ cap = 0) (hs : ∀ f ∈ fs, f.1.length ≤ 1099511627776 ∧ f.2.1.length ≤ 1099511627776 ∧ f.2.2.length ≤ 1099511627776)
    (hf : -9223372036854775808 ≤ f ∧ f ≤ 9223372036854775807) (hl1 : name.length ≤ 1099511627776) (hl2 : s.length ≤ 1099511627776) :
    Calls Try.prog 24 #[diskV A n cap f, .string (bs name), .string (bs s)] w (StepPost (stepR (wrF name s) fs f) A n cap fs w) := by
  have g1 := (Gr.refl w).alloc (.cells #[.slice A n cap, .int .i64 f] 37)
  have g2 := g1.alloc (.cells #[.string (bs name)] 9)
  have g3 := g2.alloc (.cells #[.string (bs s)] 9)
  have g4 := g3.alloc (.cells #[.slice none 0 0, .int .i64 0] 37)
  have b1 := (((Blk.new w 37 #[.slice A n cap, .int .i64 f]).alloc (.cells #[.string (bs name)] 9)).alloc (.cells #[.string (bs s)] 9)).alloc (.cells #[.slice none 0 0, .int .i64 0] 37)
  have b2 := ((Blk.new1 w (.cells #[.slice A n cap, .int .i64 f] 37) 9 #[.string (bs name)]).alloc (.cells #[.string (bs s)] 9)).alloc (.cells #[.slice none 0 0, .int .i64 0] 37)
  have b3 := (Blk.new2 w (.cells #[.slice A n cap, .int .i64 f] 37) (.cells #[.string (bs name)] 9) 9 #[.string (bs s)]).alloc (.cells #[.slice none 0 0, .int .i64 0] 37)
  have b4 := Blk.newAt (w := ((w.alloc (.cells #[.slice A n cap, .int .i64 f] 37)).alloc (.cells #[.string (bs name)] 9)).alloc (.cells #[.string (bs s)] 9)) (g := w.heap.size + 1 + 1 + 1) (by simp) 37 #[.slice none 0 0, .int .i64 0]
  obtain ⟨wa, hwa⟩ : ∃ x, x = (((w.alloc (.cells #[.slice A n cap, .int .i64 f] 37)).alloc (.cells #[.string (bs name)] 9)).alloc (.cells #[.string (bs s)] 9)).alloc (.cells #[.slice none 0 0, .int .i64 0] 37) := ⟨_, rfl⟩
  rw [← hwa] at b1 b2 b3 b4 g4
  obtain ⟨p, hp⟩ : ∃ p, p = w.heap.size := ⟨_, rfl⟩
  have hwp : w.heap.size ≤ p := by omega
  rw [← hp] at b1 b2 b3 b4
  have c0 : wa.cell? ⟨p, 0, none⟩ = some (.slice A n cap) := b1.cell 0
  have c1 : wa.cell? ⟨p, 1, none⟩ = some (.int .i64 f) := b1.cell 1
  have HS := sec (step_any 50 #[.pointer (some ⟨p + 1, 0, none⟩), .pointer (some ⟨p + 1 + 1, 0, none⟩)] (wrF name s) (enters_own Try.func50 (by kernel_rfl) rfl) fs A n cap f wa hn (hx.gr g4) hA hs hf (write1_any name s (p + 1) (p + 1 + 1) wa (b2.cell 0) (b3.cell 0) hl1 hl2))
  have HB4 := sec b4
  have HG4 := sec g4
  clear hx hA hs g1 g2 g3 g4 b1 b2 b3 b4
  unfold diskV at HS
  unfold diskV
  have hmf : ∀ (fn : Fn) (first cap : Array Value) (w : World), (Instr.makeFunc fn first cap).run Try.prog w = .ok (.func fn first cap) w := fun _ _ _ _ => rfl
  obtain ⟨R, hR⟩ : ∃ R, R = stepR (wrF name s) fs f := ⟨_, rfl⟩
  rw [← hR] at HS
  rw [← hR]
  clear hR
  obtain ⟨fs', f', er⟩ := R
  go_enter Try.func24, Try.ntmps24
  go_wp2_with (first | (rw [← hwa, ← hp]; clear hwa hp; go_wp2_with fail) | (go_at_call 49; refine Calls.mono HS.out ?_; rintro e w5 ⟨A', n', cap', rfl, g5, hA', hrow⟩;  unfold diskV; have d0 : w5.cell? ⟨p + 1 + 1 + 1, 0, none⟩ = some (.slice none 0 0) := (HB4.out.gr g5).cell 0; have d1 : w5.cell? ⟨p + 1 + 1 + 1, 1, none⟩ = some (.int .i64 0) := (HB4.out.gr g5).cell 1; have f0 : w5.frozen? ⟨p + 1 + 1 + 1, 0, none⟩ = false := (HB4.out.gr g5).frozen 0; have f1 : w5.frozen? ⟨p + 1 + 1 + 1, 1, none⟩ = false := (HB4.out.gr g5).frozen 1))
  refine bodyPost_ret (results_blk_tmp rfl _ rfl (((HB4.out.gr g5).set_ 0 (.slice A' n' cap')).set_ 1 (.int .i64 f')) aggDisk) rfl ?_
  have hfin := StepPost.set2 (r := (fs', f', er)) (p := p + 1 + 1 + 1) HG4.out HB4.out.lt (by omega) g5 (.slice A' n' cap') (.int .i64 f') hrow
  exact ⟨A', n', cap', rfl, hfin.1, hA', hfin.2⟩
end Go.Proofs.Ytcfghoohdlljkaa
