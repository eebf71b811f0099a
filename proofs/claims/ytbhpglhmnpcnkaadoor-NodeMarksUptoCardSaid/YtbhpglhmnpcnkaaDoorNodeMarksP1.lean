/-
  What the walk of cartularylaw.NodeMarks leans on, part 1 of 8: contracts and plain laws. No conditions.
-/
import Derived.Test.YtbhpglhmnpcnkaaDoorOpen
import Derived.Test.YtbhpglhmnpcnkaaDoorDiskA
import Derived.Test.YtbhpglhmnpcnkaaDoorNodes
namespace Go.Proofs.YtbhpglhmnpcnkaaDoor
set_option maxRecDepth 100000
open Go.RowKit Go.ChangeShapes Go.WideShapes

theorem open_structD_arg {w : World} {r : Reach} {base : Nat} {t : TypeId} {fs : Array Field} (ht : Tryd.prog.underlying t = some (.struct fs)) {k : Nat} {α : Type} {R : List Value → α → Prop} {sz : α → Nat} (h : Opens w t k R sz) {H : Type} {enc : TypeId × Value → H} {v : Value} {d : DataW H} {p : List MemPlace}
    (hv : Value.okWide Tryd.prog w r base t v) (hd : DataW.Trod enc Tryd.prog w 0 (fun _ => true) true t v d p) : ∃ cs a, v = .agg cs ∧ R cs.toList a ∧ sz a ≤ Rows.uptoBulk d := by
  obtain ⟨cs, rfl, _⟩ := okWide_struct ht hv
  obtain ⟨a, ha, hs, _⟩ := open_arg h hd
  exact ⟨cs, a, rfl, by simpa [Value.cells] using ha, hs⟩
def szFile (f : Fl) : Nat := f.1.length + 1 + (f.2.1.length + 1 + (f.2.2.length + 1))
theorem opens_file (w : World) : Opens w 87 3 (fun cs (x : Fl) => cs = fileC x) szFile :=
  (opens_struct Tryd.underlying87 (by kernel_rfl) (opensF_cons rfl (opens_string Tryd.underlying9 (by kernel_rfl) w) (opensF_cons rfl (opens_string Tryd.underlying9 (by kernel_rfl) w) (opensF_cons rfl (opens_string Tryd.underlying9 (by kernel_rfl) w) (opensF_nil w 3))))).map
    (fun a => (a.1, a.2.1, a.2.2.1)) (by
      rintro cs ⟨a, b, c, _⟩ ⟨c1, c2, rfl, _, h1, d1, d2, rfl, _, h2, e1, e2, rfl, _, h3, h4⟩
      simp only [strR] at h1 h2 h3
      subst h1
      subst h2
      subst h3
      subst h4
      rfl) (by intro a; simp only [szFile]; omega)
theorem opens_disk (w : World) : Opens w 24 2 (fun cs (x : List Fl × Int) => ∃ A c, cs = [.slice A x.1.length c, .int .i64 x.2] ∧ sliceR w 3 (fun cs (x : Fl) => cs = fileC x) [.slice A x.1.length c] x.1 ∧ -9223372036854775808 ≤ x.2 ∧ x.2 ≤ 9223372036854775807) (fun x => szs szFile x.1) :=
  (opens_struct Tryd.underlying24 (by kernel_rfl) (opensF_cons rfl (opens_slice Tryd.underlying22 (by kernel_rfl) (opens_file w) (by omega)) (opensF_cons rfl (opens_int Tryd.underlying3 (by kernel_rfl) w) (opensF_nil w 2)))).map
    (fun a => (a.1, a.2.1)) (by
      rintro cs ⟨fs, f, _⟩ ⟨c1, c2, rfl, _, h1, d1, d2, rfl, _, h2, h3⟩
      have h1' := h1
      obtain ⟨A, c, hc, _⟩ := h1
      simp only at hc
      subst hc
      obtain ⟨h4, h5⟩ := h2
      simp only at h4
      subst h4
      simp only [nilR] at h3
      subst h3
      exact ⟨A, c, rfl, h1', h5⟩) (by intro a; simp only; omega)
/-- what is known of a disk that came in -/
structure DiskIn (w : World) (A : Option Addr) (c : Nat) (fs : List Fl) (f : Int) : Prop where
  row : FRow w A fs.length fs
  len : fs.length ≤ 1048576
  size : ∀ x ∈ fs, x.1.length ≤ 1048576 ∧ x.2.1.length ≤ 1048576 ∧ x.2.2.length ≤ 1048576
  nil : A = none → fs.length = 0 ∧ c = 0
  fuse : -9223372036854775808 ≤ f ∧ f ≤ 9223372036854775807
  cap : fs.length ≤ c
theorem open_disk {w : World} {r : Reach} {base : Nat} {H : Type} {enc : TypeId × Value → H} {v : Value} {d : DataW H} {p : List MemPlace}
    (hv : Value.okWide Tryd.prog w r base 24 v) (hd : DataW.Trod enc Tryd.prog w 0 (fun _ => true) true 24 v d p) (hb : Rows.uptoBulk d ≤ 1048576) :
    ∃ A c fs f, v = diskV A fs.length c f ∧ DiskIn w A c fs f := by
  obtain ⟨cs, ⟨fs, f⟩, rfl, ⟨A, c, hc, hR, hf⟩, hs⟩ := open_structD_arg Tryd.underlying24 (opens_disk w) hv hd
  simp only at hc hR hf hs
  obtain ⟨A', c', e', h1, h2, hrow⟩ := sliceR_row fileC (fun _ => rfl) (by omega) (fun ci x h => h) hR
  simp only [List.cons.injEq, and_true, Value.slice.injEq, true_and] at e'
  obtain ⟨rfl, rfl⟩ := e'
  obtain ⟨A2, c2, e2, _, h3, _⟩ := hR
  simp only [List.cons.injEq, and_true, Value.slice.injEq, true_and] at e2
  obtain ⟨rfl, rfl⟩ := e2
  have hl := szs_len szFile (fun x => by unfold szFile; omega) fs
  refine ⟨A, c, fs, f, ?_, ⟨hrow, by omega, fun x hx => ?_, fun h => ?_, hf, h1⟩⟩
  · unfold diskV
    congr 1
    exact Array.toList_inj.1 hc
  · have := szs_mem szFile hx
    unfold szFile at this hs
    refine ⟨?_, ?_, ?_⟩ <;> omega
  · have := h3.2 h
    omega
end Go.Proofs.YtbhpglhmnpcnkaaDoor

namespace Go.Proofs.YtbhpglhmnpcnkaaDoor
open Go.RowKit
set_option linter.unusedVariables false

def disk0 (f : Int) : Array Value := #[.slice none 0 0, .int .i64 f]
set_option maxRecDepth 100000 in
set_option maxHeartbeats 1000000 in
theorem sameDisk0_any (f : Int) (w : World) : Calls Tryd.prog 31 #[.agg (disk0 f), .agg (disk0 f)] w fun e w' => e = .returned (.bool true) ∧ Gr w w' := by
  unfold disk0
  go_enter Tryd.func31, Tryd.ntmps31
  go_wp2_with fail
  obtain ⟨wa, hwa⟩ : ∃ x, x = (w.alloc (.cells #[.slice none 0 0, .int .i64 f] 24)).alloc (.cells #[.slice none 0 0, .int .i64 f] 24) := ⟨_, rfl⟩
  have hga : Gr w wa := by rw [hwa]; exact ((Gr.refl w).alloc _).alloc _
  rw [← hwa]
  clear hwa
  go_loopw [23, 5] (fun iv _ wr => iv = .int .i64 0 ∧ wr = wa) (fun _ _ _ => 0)
  case atStart => exact ⟨rfl, rfl⟩
  case round =>
    obtain ⟨rfl, rfl⟩ := hrel
    go_wp2_with fail
    go_ret
    exact ⟨rfl, hga⟩
def witC (who : Int) (key : List UInt8) (f n : Int) (r : List UInt8) : Array Value := #[.int .i64 who, .string (bs key), .slice none 0 0, .int .i64 f, .int .i64 n, .string (bs r)]
set_option maxRecDepth 100000 in
set_option maxHeartbeats 1000000 in
theorem sameWit_any (who : Int) (key : List UInt8) (f n : Int) (r : List UInt8) (w : World) :
    Calls Tryd.prog 10 #[.agg (witC who key f n r), .agg (witC who key f n r)] w fun e w' => e = .returned (.bool true) ∧ Gr w w' := by
  have HD := sec (sameDisk0_any f)
  unfold disk0 at HD
  unfold witC
  go_enter Tryd.func10, Tryd.ntmps10
  go_wp2_with (go_at_call 31; refine Calls.mono (HD.out _) ?_; rintro e w1 ⟨rfl, g1⟩)
  go_ret
  exact ⟨rfl, Gr.trans (((Gr.refl w).alloc _).alloc _) g1⟩
def cliC (f n : Int) (r : List UInt8) : Array Value := #[.slice none 0 0, .int .i64 f, .int .i64 n, .string (bs r), .slice none 0 0, .slice none 0 0]
end Go.Proofs.YtbhpglhmnpcnkaaDoor

namespace Go.Proofs.YtbhpglhmnpcnkaaDoor
open Go.RowKit
set_option linter.unusedVariables false

theorem witC_one (who : Int) (key : List UInt8) (f n : Int) (r : List UInt8) : (witC who key f n r).all (·.oneCell') = true := by simp [witC, Value.oneCell']
theorem cliC_one (f n : Int) (r : List UInt8) : (cliC f n r).all (·.oneCell') = true := by simp [cliC, Value.oneCell']
/-- P12.1 -/
def newW (who : Int) (key : List UInt8) : Value := if 0 ≤ who ∧ who < 4 then .tuple #[.agg (witC who key (-1) 0 (sha [])), .int .i64 0] else .tuple #[.agg (witC 0 [] 0 0 []), .int .i64 3]

set_option maxRecDepth 100000 in
set_option maxHeartbeats 1000000 in
theorem newWit_any (who : Int) (key : List UInt8) (w : World) (hT : TabK w) :
    Calls Tryd.prog 32 #[.int .i64 who, .string (bs key)] w fun e w' => e = .returned (newW who key) ∧ Gr w w' := by
  by_cases h0 : 0 ≤ who
  · by_cases h1 : who < 4
    · have HN : Sec (newW who key = .tuple #[.agg (witC who key (-1) 0 (sha [])), .int .i64 0]) := sec (by unfold newW; rw [if_pos ⟨h0, h1⟩])
      rw [HN.out]
      have h3 : who ≤ 3 := by omega
      go_enter Tryd.func32, Tryd.ntmps32
      go_wp2_with (first
        | (refine wpList_store_blk rfl 28 (.tmp 4) (.tmp 17) rfl (g := w.heap.size) (cs' := witC who key (-1) 0 (sha [])) rfl rfl hB A.wit rfl (witC_one _ _ _ _ _) ?_; intro w2 h2 hg2)
        | (go_at_call 21; refine (empty_any _ (hT.gr ((Gr.refl w).alloc _))).mono ?_; rintro e w1 ⟨rfl, g1⟩; have hB := (Blk.new w 28 (witC 0 [] 0 0 [])).gr g1; have gg1 : Gr w w1 := Gr.trans ((Gr.refl w).alloc _) g1))
      refine bodyPost_ret (results_blk_tmp rfl _ rfl h2 A.wit) rfl ?_
      exact ⟨rfl, Gr.only gg1 hg2 (Nat.le_refl _)⟩
    · have HN : Sec (newW who key = .tuple #[.agg (witC 0 [] 0 0 []), .int .i64 3]) := sec (by unfold newW; rw [if_neg (fun h => h1 h.2)])
      rw [HN.out]
      have h3 : ¬ who ≤ 3 := by omega
      go_enter Tryd.func32, Tryd.ntmps32
      go_wp2_with (refine wpList_store_blk rfl 28 (.tmp 4) (.tmp 12) rfl (g := w.heap.size) (cs' := witC 0 [] 0 0 []) rfl rfl (Blk.new w 28 (witC 0 [] 0 0 [])) A.wit rfl (witC_one _ _ _ _ _) ?_; intro w2 h2 hg2)
      refine bodyPost_ret (results_blk_tmp rfl _ rfl h2 A.wit) rfl ?_
      exact ⟨rfl, Gr.only ((Gr.refl w).alloc _) hg2 (Nat.le_refl _)⟩
  · have HN : Sec (newW who key = .tuple #[.agg (witC 0 [] 0 0 []), .int .i64 3]) := sec (by unfold newW; rw [if_neg (fun h => h0 h.1)])
    rw [HN.out]
    go_enter Tryd.func32, Tryd.ntmps32
    go_wp2_with (refine wpList_store_blk rfl 28 (.tmp 4) (.tmp 12) rfl (g := w.heap.size) (cs' := witC 0 [] 0 0 []) rfl rfl (Blk.new w 28 (witC 0 [] 0 0 [])) A.wit rfl (witC_one _ _ _ _ _) ?_; intro w2 h2 hg2)
    refine bodyPost_ret (results_blk_tmp rfl _ rfl h2 A.wit) rfl ?_
    exact ⟨rfl, Gr.only ((Gr.refl w).alloc _) hg2 (Nat.le_refl _)⟩
set_option maxRecDepth 100000 in
set_option maxHeartbeats 1000000 in
theorem newCli_any (w : World) (hT : TabK w) :
    Calls Tryd.prog 33 #[] w fun e w' => e = .returned (.agg (cliC (-1) 0 (sha []))) ∧ Gr w w' := by
  go_enter Tryd.func33, Tryd.ntmps33
  go_wp2_with (first
    | (refine wpList_store_blk rfl 62 (.tmp 0) (.tmp 3) rfl (g := w.heap.size) (cs' := cliC (-1) 0 (sha [])) rfl rfl hB A.cli rfl (cliC_one _ _ _) ?_; intro w2 h2 hg2)
    | (go_at_call 21; refine (empty_any _ (hT.gr ((Gr.refl w).alloc _))).mono ?_; rintro e w1 ⟨rfl, g1⟩; have hB := (Blk.new w 62 (cliC 0 0 [])).gr g1; have gg1 : Gr w w1 := Gr.trans ((Gr.refl w).alloc _) g1))
  refine bodyPost_ret (results_blk rfl _ rfl h2 A.cli) rfl ?_
  exact ⟨rfl, Gr.only gg1 hg2 (Nat.le_refl _)⟩

end Go.Proofs.YtbhpglhmnpcnkaaDoor

namespace Go.Proofs.YtbhpglhmnpcnkaaDoor
open Go.RowKit
set_option linter.unusedVariables false

set_option maxRecDepth 100000 in
set_option maxHeartbeats 1000000 in
theorem nodes_any (w : World) (hT : TabK w) : Calls Tryd.prog 11 #[] w fun e w' => e = .returned (.bool true) ∧ Gr w w' := by
  have HN : Sec (newW 1 [107] = .tuple #[.agg (witC 1 [107] (-1) 0 (sha [])), .int .i64 0]) := sec (by unfold newW; rw [if_pos ⟨by omega, by omega⟩])
  have HC : Sec (cliC (-1) 0 (sha []) = #[.slice none 0 0, .int .i64 (-1), .int .i64 0, .string (bs (sha [])), .slice none 0 0, .slice none 0 0]) := sec rfl
  have f1 : ∀ (r : ByteArray) (w : World), (Instr.field 62 (.agg #[.slice none 0 0, .int .i64 (-1), .int .i64 0, .string r, .slice none 0 0, .slice none 0 0]) 0).run Tryd.prog w = .ok (.agg #[.slice none 0 0, .int .i64 (-1)]) w := fun r w => by kernel_rfl
  have f2 : ∀ (w : World), (Instr.field 24 (.agg #[.slice none 0 0, .int .i64 (-1)]) 1).run Tryd.prog w = .ok (.int .i64 (-1)) w := fun w => by kernel_rfl
  go_enter Tryd.func11, Tryd.ntmps11
  go_wp2_with (first
    | (refine wpList_store_blk rfl 28 (.tmp 1) (.tmp 5) rfl (g := w1.heap.size) rfl rfl (Blk.new w1 _ (witC 0 [] 0 0 [])) A.wit rfl (witC_one _ _ _ _ _) ?_; intro w2 h2 hg2; have c2 : w2.cell? ⟨w1.heap.size, 0, none⟩ = some (.int .i64 1) := h2.cell 0; have gg2 : Gr w w2 := Gr.only (g1.alloc _) hg2 g1.size)
    | (go_at_call 32; refine (newWit_any 1 [107] _ hT).mono ?_; rw [HN.out]; rintro e w1 ⟨rfl, g1⟩)
    | (go_at_call 33; refine (newCli_any _ (hT.gr gg2)).mono ?_; rw [HC.out]; rintro e w3 ⟨rfl, g3⟩))
  go_ret
  exact ⟨rfl, gg2.trans g3⟩

end Go.Proofs.YtbhpglhmnpcnkaaDoor
