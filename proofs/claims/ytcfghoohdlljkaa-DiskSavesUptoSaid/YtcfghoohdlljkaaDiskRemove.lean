/-
  disk.Remove by its contract.
-/
import Derived.Test.YtcfghoohdlljkaaDiskWrite
namespace Go.Proofs.Ytcfghoohdlljkaa
open Go.RowKit
set_option linter.unusedVariables false

/-- Delete, and the slice stored -/
theorem DOwn.del {w w3 : World} {B q n cap cap' i : Nat} {A A' : Option Addr} {u : Int} {fs : List Fl} (h : DOwn w B q A n cap u fs) (ho : w3.ownsRow B 70 3 (.slice A' (n - 1) cap') (n - 1) ((fs.eraseIdx i).flatMap fileC))
    (hgr : w.grownBy w3 (Value.ownBlock (.slice A n cap))) :
    Blk w3 q 37 #[.slice A n cap, .int .i64 u] ∧ DOwn (w3.setCell ⟨q, 0, none⟩ (.slice A' (n - 1) cap')) B q A' (n - 1) cap' u (fs.eraseIdx i) ∧ (∀ wc, wc.heap.size = B → Gr wc w → Gr wc (w3.setCell ⟨q, 0, none⟩ (.slice A' (n - 1) cap'))) := by
  have hb : Blk w3 q 37 #[.slice A n cap, .int .i64 u] := h.blk.grown hgr (Ne.symm h.ne)
  refine ⟨hb, ⟨hb.set_ 0 _, ownsRow_setCell_other ho (a := ⟨q, 0, none⟩) (own_blk_ne ho hb (by decide)) _, h.base⟩, fun wc hB hg => ?_⟩
  subst hB
  exact (Gr.grown hg hgr (fun k hk => (h.own.lt k hk).1)).setCell (p := ⟨q, 0, none⟩) h.base _
/-- P6.5 within the power -/
def rmF (name : List UInt8) (fs : List Fl) : List Fl × Int := if hasF name fs then (fs.eraseIdx (lbF name fs), 0) else (fs, 7)

set_option maxRecDepth 100000 in
set_option maxHeartbeats 4000000 in
theorem remove1_any (name : List UInt8) (c1 : Nat) (w0 : World) (h1 : w0.cell? ⟨c1, 0, none⟩ = some (.string (bs name))) :
    Steps 55 #[.pointer (some ⟨c1, 0, none⟩)] (rmF name) w0 := by
  intro wb w q A n cap u fs g0 gc hd hgf
  show Calls Try.prog 55 #[.pointer (some ⟨q, 0, none⟩), .pointer (some ⟨c1, 0, none⟩)] w _
  have hl := hd.len
  have hl400 : fs.length ≤ 400 := goodFs_len hgf
  have e1 : w.cell? ⟨c1, 0, none⟩ = some (.string (bs name)) := ((g0.trans gc).cells.1 c1 _ (World.block_lt_of_cell? w0 _ h1)).trans h1
  have HD := sec hd
  have HS := sec (goodFs_sorted hgf)
  have HGC := sec gc
  have HGF := sec hgf
  have d0 : w.cell? ⟨q, 0, none⟩ = some (.slice A n cap) := hd.blk.cell 0
  have d1 : w.cell? ⟨q, 1, none⟩ = some (.int .i64 u) := hd.blk.cell 1
  clear h1 g0 gc hd hgf
  obtain ⟨k, hk⟩ : ∃ k, k = lbF name fs := ⟨_, rfl⟩
  have HK := sec hk
  clear hk
  cases hB : hasF name fs with
  | false =>
    have HR : Sec (rmF name fs = (fs, 7)) := sec (by unfold rmF; rw [hB]; rfl)
    have HB := sec hB
    clear hB
    go_enter Try.func55, Try.ntmps55
    go_upto_region 1 with fail
    go_cut [4, 5] from 6 to 26 (fun v5 v6 wx => v5 = .int .i64 (k : Int) ∧ v6 = .bool false ∧ Gr w wx)
    case first =>
      go_region_with (go_at_call 45; refine (find_any fs name A n cap u w.drew (by omega) (FRow.gr (Row.own HD.out.own) (Gr.refl _).drew) HS.out).mono ?_; rw [← HK.out, HB.out]; rintro e w2 ⟨rfl, g2⟩)
      all_goals (go_wp2_with fail; go_meet; exact ⟨rfl, rfl, Gr.trans (Gr.refl _).drew g2⟩)
    case rest =>
      obtain ⟨rfl, rfl, gx⟩ := hcut
      go_wp2_with fail
      go_ret
      rw [HR.out]
      exact ⟨rfl, HGC.out.trans gx, fun h => by cases h⟩
  | true =>
    have hX := hasF_lt HS.out hB
    rw [← HK.out] at hX
    obtain ⟨hkl, hnm⟩ := hX
    have HB := sec hB
    clear hB
    go_enter Try.func55, Try.ntmps55
    go_upto_region 1 with fail
    go_cut [4, 5] from 6 to 26 (fun v5 v6 wx => v5 = .int .i64 (k : Int) ∧ v6 = .bool true ∧ Gr w wx)
    case first =>
      go_region_with (go_at_call 45; refine (find_any fs name A n cap u w.drew (by omega) (FRow.gr (Row.own HD.out.own) (Gr.refl _).drew) HS.out).mono ?_; rw [← HK.out, HB.out]; rintro e w2 ⟨rfl, g2⟩)
      all_goals (go_wp2_with fail; go_meet; exact ⟨rfl, rfl, Gr.trans (Gr.refl _).drew g2⟩)
    case rest =>
      obtain ⟨rfl, rfl, gx⟩ := hcut
      have HDz := sec (HD.out.gr gx)
      have gz : Gr wb wc := HGC.out.trans gx
      clear d0 d1 e1 HD gx
      have hk2 : (k : Int) < (n : Int) := by omega
      have d0z : wc.cell? ⟨q, 0, none⟩ = some (.slice A n cap) := HDz.out.blk.cell 0
      have HR : Sec (rmF name fs = (fs.eraseIdx k, 0)) := sec (by unfold rmF; rw [HB.out, if_pos rfl, ← HK.out])
      have HDE : Sec (Calls Try.prog 54 #[.slice A n cap, .int .i64 (k : Int), .int .i64 ((k : Int) + 1)] wc fun e w' =>
        e = .returned (.slice A (n - 1) cap) ∧ w'.ownsRow wb.heap.size 70 3 (.slice A (n - 1) cap) (n - 1) ((fs.eraseIdx k).flatMap fileC) ∧ wc.grownBy w' (Value.ownBlock (.slice A n cap))) := sec
        (delete_any A n cap k wb.heap.size fs wc HDz.out.own (by omega) (by omega))
      have hwr : IntKind.i64.wrap ((k : Int) + 1) = (k : Int) + 1 := IntWalk.i64_in _ (by omega)
      go_wp2_with (go_at_call 54; refine HDE.out.mono ?_; rintro e w3 ⟨rfl, ho, hgr⟩; obtain ⟨hb3, hd3, hg3⟩ := HDz.out.del ho hgr; have d0y : w3.cell? ⟨q, 0, none⟩ = some (.slice A n cap) := hb3.cell 0; have f0y : w3.frozen? ⟨q, 0, none⟩ = false := hb3.frozen 0)
      go_ret
      rw [HR.out]
      exact ⟨rfl, hg3 wb rfl gz, fun _ => ⟨_, _, _, hd3⟩⟩

set_option maxRecDepth 100000 in
set_option maxHeartbeats 4000000 in
theorem remove_any (name : List UInt8) (fs : List Fl) (A : Option Addr) (n cap : Nat) (f : Int) (w : World) (hn : n ≤ 1099511627776) (hx : FRow w A n fs) (hA : A = none → n = 0 ∧ cap = 0) (hs : ∀ f ∈ fs, f.1.length ≤ 1099511627776 ∧ f.2.1.length ≤ 1099511627776 ∧ f.2.2.length ≤ 1099511627776)
    (hf : -9223372036854775808 ≤ f ∧ f ≤ 9223372036854775807) :
    Calls Try.prog 27 #[diskV A n cap f, .string (bs name)] w (StepPost (stepR (rmF name) fs f) A n cap fs w) := by
  have g1 := (Gr.refl w).alloc (.cells #[.slice A n cap, .int .i64 f] 37)
  have g2 := g1.alloc (.cells #[.string (bs name)] 9)
  have g4 := g2.alloc (.cells #[.slice none 0 0, .int .i64 0] 37)
  have b1 := ((Blk.new w 37 #[.slice A n cap, .int .i64 f]).alloc (.cells #[.string (bs name)] 9)).alloc (.cells #[.slice none 0 0, .int .i64 0] 37)
  have b2 := (Blk.new1 w (.cells #[.slice A n cap, .int .i64 f] 37) 9 #[.string (bs name)]).alloc (.cells #[.slice none 0 0, .int .i64 0] 37)
  have b4 := Blk.newAt (w := ((w.alloc (.cells #[.slice A n cap, .int .i64 f] 37)).alloc (.cells #[.string (bs name)] 9))) (g := w.heap.size + 1 + 1) (by simp) 37 #[.slice none 0 0, .int .i64 0]
  obtain ⟨wa, hwa⟩ : ∃ x, x = (((w.alloc (.cells #[.slice A n cap, .int .i64 f] 37)).alloc (.cells #[.string (bs name)] 9))).alloc (.cells #[.slice none 0 0, .int .i64 0] 37) := ⟨_, rfl⟩
  rw [← hwa] at b1 b2 b4 g4
  obtain ⟨p, hp⟩ : ∃ p, p = w.heap.size := ⟨_, rfl⟩
  have hwp : w.heap.size ≤ p := by omega
  rw [← hp] at b1 b2 b4
  have c0 : wa.cell? ⟨p, 0, none⟩ = some (.slice A n cap) := b1.cell 0
  have c1 : wa.cell? ⟨p, 1, none⟩ = some (.int .i64 f) := b1.cell 1
  have HS := sec (step_any 55 #[.pointer (some ⟨p + 1, 0, none⟩)] (rmF name) (enters_own Try.func55 (by kernel_rfl) rfl) fs A n cap f wa hn (hx.gr g4) hA hs hf (remove1_any name (p + 1) wa (b2.cell 0)))
  have HB4 := sec b4
  have HG4 := sec g4
  clear hx hA hs g1 g2 g4 b1 b2 b4
  unfold diskV at HS
  unfold diskV
  have hmf : ∀ (fn : Fn) (first cap : Array Value) (w : World), (Instr.makeFunc fn first cap).run Try.prog w = .ok (.func fn first cap) w := fun _ _ _ _ => rfl
  obtain ⟨R, hR⟩ : ∃ R, R = stepR (rmF name) fs f := ⟨_, rfl⟩
  rw [← hR] at HS
  rw [← hR]
  clear hR
  obtain ⟨fs', f', er⟩ := R
  go_enter Try.func27, Try.ntmps27
  go_wp2_with (first | (rw [← hwa, ← hp]; clear hwa hp; go_wp2_with fail) | (go_at_call 49; refine Calls.mono HS.out ?_; rintro e w5 ⟨A', n', cap', rfl, g5, hA', hrow⟩;  unfold diskV; have d0 : w5.cell? ⟨p + 1 + 1, 0, none⟩ = some (.slice none 0 0) := (HB4.out.gr g5).cell 0; have d1 : w5.cell? ⟨p + 1 + 1, 1, none⟩ = some (.int .i64 0) := (HB4.out.gr g5).cell 1; have f0 : w5.frozen? ⟨p + 1 + 1, 0, none⟩ = false := (HB4.out.gr g5).frozen 0; have f1 : w5.frozen? ⟨p + 1 + 1, 1, none⟩ = false := (HB4.out.gr g5).frozen 1))
  refine bodyPost_ret (results_blk_tmp rfl _ rfl (((HB4.out.gr g5).set_ 0 (.slice A' n' cap')).set_ 1 (.int .i64 f')) aggDisk) rfl ?_
  have hfin := StepPost.set2 (r := (fs', f', er)) (p := p + 1 + 1) HG4.out HB4.out.lt (by omega) g5 (.slice A' n' cap') (.int .i64 f') hrow
  exact ⟨A', n', cap', rfl, hfin.1, hA', hfin.2⟩
end Go.Proofs.Ytcfghoohdlljkaa
