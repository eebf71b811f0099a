/-
  StepDecodesP: contracts and plain laws joined (8 texts). No conditions but those that each states.
-/
import Derived.Test.YtkgmimmneeppgaaDoorStepBase
import Derived.Test.YtkgmimmneeppgaaDoorRdr
import Derived.Test.YtkgmimmneeppgaaDoorRGet
import Derived.Test.YtkgmimmneeppgaaDoorGetC
import Derived.Deep.CutBlock
import Derived.Test.YtkgmimmneeppgaaDoorStepS
namespace Go.Proofs.YtkgmimmneeppgaaDoor
set_option maxRecDepth 100000
open Go.RowKit
set_option linter.unusedVariables false
/-- the block q, the rows X and Y; the block need not yet name the rows -/
structure Md (w0 : World) (q K : Nat) (cs : Array Value) (X Y : Value) (N M : Nat) (F : List Int) (G : List (List UInt8)) (w : World) : Prop where
  blk : Blk w q 46 cs
  own1 : w.ownsRow K 3 1 X N (F.map iV)
  own2 : w.ownsRow K 9 1 Y M (G.map strV)
  gr : Gr w0 w
  lt : q < K
  le : w0.heap.size ≤ q
section
variable {w0 : World} {q K : Nat} {cs : Array Value} {X Y : Value} {N M : Nat} {F : List Int} {G : List (List UInt8)} {w w' : World}
theorem Md.gr' (h : Md w0 q K cs X Y N M F G w) (g : Gr w w') : Md w0 q K cs X Y N M F G w' := ⟨h.blk.gr g, own_gr h.own1 g, own_gr h.own2 g, h.gr.trans g, h.lt, h.le⟩
theorem Md.al (h : Md w0 q K cs X Y N M F G w) (o : Obj) : Md w0 q K cs X Y N M F G (w.alloc o) := h.gr' ((Gr.refl _).alloc _)
theorem Md.drew (h : Md w0 q K cs X Y N M F G w) : Md w0 q K cs X Y N M F G w.drew := h.gr' (Gr.refl _).drew
/-- another block, of neither kind, has turned -/
theorem Md.only {g : Nat} {T : TypeId} {cs' : Array Value} (h : Md w0 q K cs X Y N M F G w) (hb : Blk w g T cs') (h1 : 3 ≠ T) (h2 : 9 ≠ T) (hq : q ≠ g) (hg : w0.heap.size ≤ g) (k : w.grownBy w' (some g)) : Md w0 q K cs X Y N M F G w' :=
  ⟨h.blk.only k hq, own_only h.own1 hb h1 k, own_only h.own2 hb h2 k, h.gr.only k hg, h.lt, h.le⟩
theorem Md.app1 {X' : Value} {N' : Nat} {F' : List Int} (h : Md w0 q K cs X Y N M F G w) (ho : w'.ownsRow K 3 1 X' N' (F'.map iV)) (k : w.grownBy w' X.ownBlock) : Md w0 q K cs X' Y N' M F' G w' :=
  ⟨blk_own h.blk h.own1 (by decide) k, ho, own_other h.own2 h.own1 (by decide) k, h.gr.grown k (fun i hi => by have := (h.own1.lt i hi).1; have := h.lt; have := h.le; omega), h.lt, h.le⟩
theorem Md.app2 {Y' : Value} {M' : Nat} {G' : List (List UInt8)} (h : Md w0 q K cs X Y N M F G w) (ho : w'.ownsRow K 9 1 Y' M' (G'.map strV)) (k : w.grownBy w' Y.ownBlock) : Md w0 q K cs X Y' N M' F G' w' :=
  ⟨blk_own h.blk h.own2 (by decide) k, own_other h.own1 h.own2 (by decide) k, ho, h.gr.grown k (fun i hi => by have := (h.own2.lt i hi).1; have := h.lt; have := h.le; omega), h.lt, h.le⟩
theorem Md.st (h : Md w0 q K cs X Y N M F G w) (i : Nat) (u : Value) : Md w0 q K (cs.setIfInBounds i u) X Y N M F G (w.setCell ⟨q, i, none⟩ u) :=
  ⟨h.blk.set_ i u, ownsRow_setCell_other h.own1 (a := ⟨q, i, none⟩) (fun e => by have := (h.own1.lt q e).1; have := h.lt; omega) u, ownsRow_setCell_other h.own2 (a := ⟨q, i, none⟩) (fun e => by have := (h.own2.lt q e).1; have := h.lt; omega) u, h.gr.setCell (p := ⟨q, i, none⟩) h.le u, h.lt, h.le⟩
theorem BlkAt {w : World} {g : Nat} {t : TypeId} {cs : Array Value} (h : g = w.heap.size) : Blk (w.alloc (.cells cs t)) g t cs := by subst h; exact Blk.new w t cs
theorem Md.size (h : Md w0 q K cs X Y N M F G w) (hK : K ≤ q + 1) : K ≤ w.heap.size := by have := h.blk.lt; omega
/-- a piece of the other kind stays where it is -/
theorem Md.keep1 {g : Nat} {T : TypeId} {cs' : Array Value} (h : Md w0 q K cs X Y N M F G w) (hb : Blk w g T cs') (h1 : 3 ≠ T) (k : w.grownBy w' X.ownBlock) : Blk w' g T cs' := blk_own hb h.own1 h1 k
theorem Md.keep2 {g : Nat} {T : TypeId} {cs' : Array Value} (h : Md w0 q K cs X Y N M F G w) (hb : Blk w g T cs') (h1 : 9 ≠ T) (k : w.grownBy w' Y.ownBlock) : Blk w' g T cs' := blk_own hb h.own2 h1 k
end
/-- a step's block that names its two rows -/
def TwA (r o n : List UInt8) (A : Option Addr) (c N : Nat) (B : Option Addr) (d M : Nat) : Array Value := #[.string (bs r), .string (bs o), .string (bs n), .slice A N c, .slice B M d]
/-- both rows have N pieces -/
def Tw (w0 : World) (q K : Nat) (r o n : List UInt8) (N : Nat) (F : List Int) (G : List (List UInt8)) (w : World) : Prop :=
  ∃ A c B d, Md w0 q K (TwA r o n A c N B d N) (.slice A N c) (.slice B N d) N N F G w
theorem Tw.new {w0 w : World} {q K : Nat} {r o n : List UInt8} (h : Blk w q 46 (TwA r o n none 0 0 none 0 0)) (g : Gr w0 w) (lt : q < K) (le : w0.heap.size ≤ q) : Tw w0 q K r o n 0 [] [] w :=
  ⟨none, 0, none, 0, h, World.ownsRow_nil _ _ _ _, World.ownsRow_nil _ _ _ _, g, lt, le⟩
theorem Tw.only {w0 w w' : World} {q K N g : Nat} {r o n : List UInt8} {F : List Int} {G : List (List UInt8)} {T : TypeId} {cs' : Array Value} (h : Tw w0 q K r o n N F G w) (hb : Blk w g T cs') (h1 : 3 ≠ T) (h2 : 9 ≠ T) (hq : q ≠ g) (hg : w0.heap.size ≤ g) (k : w.grownBy w' (some g)) : Tw w0 q K r o n N F G w' := by
  obtain ⟨A, c, B, d, h⟩ := h
  exact ⟨A, c, B, d, h.only hb h1 h2 hq hg k⟩
theorem Tw.gr' {w0 w w' : World} {q K N : Nat} {r o n : List UInt8} {F : List Int} {G : List (List UInt8)} (h : Tw w0 q K r o n N F G w) (g : Gr w w') : Tw w0 q K r o n N F G w' := by
  obtain ⟨A, c, B, d, h⟩ := h
  exact ⟨A, c, B, d, h.gr' g⟩
theorem Md.lenF {w0 : World} {q K : Nat} {cs : Array Value} {X Y : Value} {N M : Nat} {F : List Int} {G : List (List UInt8)} {w : World} (h : Md w0 q K cs X Y N M F G w) : F.length = N := by
  have := h.own1.1
  simpa using this
theorem Md.lenG {w0 : World} {q K : Nat} {cs : Array Value} {X Y : Value} {N M : Nat} {F : List Int} {G : List (List UInt8)} {w : World} (h : Md w0 q K cs X Y N M F G w) : G.length = M := by
  have := h.own2.1
  simpa using this
/-- what stands in the block, and the step as a value -/
theorem str_own {w : World} {K K' N : Nat} {r o n : List UInt8} {F : List Int} {G : List (List UInt8)} {A B : Option Addr} {c d : Nat} (h : w.ownsRow K 3 1 (.slice A N c) N (F.map iV)) (h' : w.ownsRow K' 9 1 (.slice B N d) N (G.map strV)) : StR w ⟨r, o, n, F, G⟩ A c B d ∧ TwA r o n A c N B d N = stepA ⟨r, o, n, F, G⟩ A c B d := by
  have h1 : F.length = N := by have := h.1; simpa using this
  have h2 : G.length = N := by have := h'.1; simpa using this
  subst h1
  unfold TwA stepA
  simp only
  rw [h2]
  exact ⟨⟨Row.own h, by simp only; rw [h2]; exact Row.own h', own_nil h, fun e => by simp only; rw [h2]; exact own_nil h' e, own_cap h, by simp only; rw [h2]; exact own_cap h'⟩, rfl⟩
theorem Md.str {w0 w : World} {q K N : Nat} {r o n : List UInt8} {F : List Int} {G : List (List UInt8)} {A B : Option Addr} {c d : Nat} (h : Md w0 q K (TwA r o n A c N B d N) (.slice A N c) (.slice B N d) N N F G w) : StR w ⟨r, o, n, F, G⟩ A c B d ∧ TwA r o n A c N B d N = stepA ⟨r, o, n, F, G⟩ A c B d := str_own h.own1 h.own2
theorem twA_one (r o n : List UInt8) (A : Option Addr) (c N : Nat) (B : Option Addr) (d M : Nat) : (TwA r o n A c N B d M).all (·.oneCell') = true := by simp [TwA, Value.oneCell']
theorem iV_add (F : List Int) (x : Int) : F.map iV ++ [Value.int .i64 x] = (F ++ [x]).map iV := by simp [iV]
theorem sV_add (G : List (List UInt8)) (x : List UInt8) : G.map strV ++ [Value.string (bs x)] = (G ++ [x]).map strV := by simp [strV]
end Go.Proofs.YtkgmimmneeppgaaDoor

namespace Go.Proofs.YtkgmimmneeppgaaDoor
set_option maxRecDepth 100000
open Go.RowKit
set_option linter.unusedVariables false
theorem gKp {l : List UInt8} (h : gE l = 0) : 0 < gK l := by
  unfold gE at h
  unfold gK
  rcases hg : get l with _ | ⟨n, k⟩
  · rw [hg] at h; cases h
  · exact (get_le hg).2.1
theorem nxtN_lt (q : St) : nxtN q < 4611686018427387904 := by
  unfold nxtN
  split
  · exact gN_lt _
  · omega
theorem aftN_le (q : St) : (aftN q).1.length ≤ q.1.length := by
  unfold aftN; split
  · simp
  · exact Nat.le_refl _
theorem aftN_less {q : St} (h : q.2 = 0) (h2 : (aftN q).2 = 0) : (aftN q).1.length < q.1.length := by
  unfold aftN at h2 ⊢
  rw [if_pos h] at h2 ⊢
  have := gKp h2
  have := (gK_le q.1).1
  simp; omega
theorem aftB_le (n : Int) (q : St) : (aftB n q).1.length ≤ q.1.length := by
  unfold aftB
  split
  · split
    · simp
    · exact Nat.le_refl _
  · exact Nat.le_refl _
theorem aftB_ok {n : Int} {q : St} (h : (aftB n q).2 = 0) : q.2 = 0 := by
  unfold aftB at h
  split at h
  · assumption
  · exact h
theorem nxtB_le (q : St) : (nxtB 32 q).length ≤ 32 := by
  unfold nxtB
  split
  · rw [List.length_take]; exact Nat.min_le_left _ _
  · simp
theorem aftT_le (q : St) : (aftT q).1.length ≤ q.1.length := by
  unfold aftT; split
  · simp
  · exact Nat.le_refl _
theorem nxtT_le (q : St) : (nxtT q).length ≤ q.1.length := by
  unfold nxtT
  split
  · unfold tS
    split
    · unfold sub; simp only [List.length_take, List.length_drop]; omega
    · simp
  · simp
/-- so many pairs of a number and 32 bytes, as long as nothing went wrong -/
def dcL : Nat → St → List Int × List (List UInt8) × St
  | 0, q => ([], [], q)
  | n + 1, q => if q.2 = 0 then ((nxtN q : Int) :: (dcL n (aftB 32 (aftN q))).1, nxtB 32 (aftN q) :: (dcL n (aftB 32 (aftN q))).2.1, (dcL n (aftB 32 (aftN q))).2.2) else ([], [], q)
/-- i pairs are read, n are to come -/
structure DcAt (k n0 : Nat) (q0 : St) (i n : Nat) (q : St) (W : List Int) (S : List (List UInt8)) : Prop where
  all : dcL n0 q0 = (W ++ (dcL n q).1, S ++ (dcL n q).2.1, (dcL n q).2.2)
  sum : i + n = n0
  wl : W.length = i
  sl : S.length = i
  le : i ≤ k + 1
  left : q.2 = 0 → q.1.length + i ≤ k
  len : q.1.length ≤ k
  each : ∀ x ∈ S, x.length ≤ 32
theorem DcAt.start {k n0 : Nat} {q0 : St} (h : q0.1.length ≤ k) : DcAt k n0 q0 0 n0 q0 [] [] :=
  ⟨rfl, by omega, rfl, rfl, by omega, fun _ => by omega, h, by simp⟩
theorem DcAt.next {k n0 : Nat} {q0 : St} {i n : Nat} {q : St} {W : List Int} {S : List (List UInt8)} (h : DcAt k n0 q0 i (n + 1) q W S) (h0 : q.2 = 0) :
    DcAt k n0 q0 (i + 1) n (aftB 32 (aftN q)) (W ++ [(nxtN q : Int)]) (S ++ [nxtB 32 (aftN q)]) := by
  have hl := h.left h0
  have h1 := aftB_le 32 (aftN q)
  have h2 := aftN_le q
  refine ⟨?_, by have := h.sum; omega, by rw [List.length_append, h.wl]; rfl, by rw [List.length_append, h.sl]; rfl, by omega, fun e => ?_, by omega, fun x hx => ?_⟩
  · have := h.all
    rw [dcL, if_pos h0] at this
    rw [this]
    simp
  · have := aftN_less h0 (aftB_ok e)
    omega
  · rcases List.mem_append.1 hx with hx | hx
    · exact h.each x hx
    · simp at hx; subst hx; exact nxtB_le _
theorem DcAt.bad {k n0 : Nat} {q0 : St} {i n : Nat} {q : St} {W : List Int} {S : List (List UInt8)} (h : DcAt k n0 q0 i n q W S) (h0 : ¬ q.2 = 0) : dcL n0 q0 = (W, S, q) := by
  have := h.all
  cases n with
  | zero => simpa [dcL] using this
  | succ n => rw [dcL, if_neg h0] at this; simpa using this
theorem DcAt.done {k n0 : Nat} {q0 : St} {i : Nat} {q : St} {W : List Int} {S : List (List UInt8)} (h : DcAt k n0 q0 i 0 q W S) : dcL n0 q0 = (W, S, q) := by
  have := h.all
  simpa [dcL] using this
/-- behind the three texts -/
def dc3 (b : List UInt8) : St := aftT (aftT (aftT (b, 0)))
def dcLs (b : List UInt8) : List Int × List (List UInt8) × St := dcL (nxtN (dc3 b)) (aftN (dc3 b))
/-- the step as it is read -/
def dcS (b : List UInt8) : Stp := ⟨nxtT (b, 0), nxtT (aftT (b, 0)), nxtT (aftT (aftT (b, 0))), (dcLs b).1, (dcLs b).2.1⟩
/-- P10.3: what is read, and the error -/
def dcR (b : List UInt8) : Stp × Int := if (dcLs b).2.2.2 = 0 ∧ (dcLs b).2.2.1.length = 0 then (if stE (dcS b) = 0 then (dcS b, 0) else (stpZ, stE (dcS b))) else (stpZ, 2)
theorem dc3_le (b : List UInt8) : (dc3 b).1.length ≤ b.length := by
  unfold dc3
  have h1 := aftT_le (aftT (aftT (b, 0)))
  have h2 := aftT_le (aftT (b, 0))
  have h3 := aftT_le (b, 0)
  simp only at h3
  omega
end Go.Proofs.YtkgmimmneeppgaaDoor

namespace Go.Proofs.YtkgmimmneeppgaaDoor
open Go.RowKit
set_option maxRecDepth 100000 in
theorem wgett_any (l : List UInt8) (w : World) (hl : l.length ≤ 1152921504606846976) :
    Calls Tryd.prog 76 #[.string (bs l)] w fun e w' => e = .returned (.tuple #[.string (bs (tS l)), .int .i64 (tK l : Int), .int .i64 (tE l : Int)]) ∧ w = w' := by
  have hk := gK_le l
  have hn := gN_lt l
  rcases gE_or l with he | he
  · by_cases h1 : 4096 < gN l
    · have ht : tS l = [] ∧ tK l = 0 := t_no (fun h => by have := h.2.1; omega)
      have hte : tE l = 1 := by unfold tE; rw [if_neg (by omega), if_pos h1]
      go_enter Tryd.func76, Tryd.ntmps76
      go_wp2_with (go_at_call 77; refine (wget_any _ _ hl).mono ?_; rintro e w1 ⟨rfl, rfl⟩)
      go_ret3
      exact ⟨by rw [ht.1, ht.2, hte]; rfl, rfl⟩
    · by_cases h2 : l.length - gK l < gN l
      · have ht : tS l = [] ∧ tK l = 0 := t_no (fun h => by have := h.2.2; omega)
        have hte : tE l = 2 := by unfold tE; rw [if_neg (by omega), if_neg h1, if_pos h2]
        have h2' : (l.length : Int) - gK l < gN l := by omega
        go_enter Tryd.func76, Tryd.ntmps76
        go_wp2_with (go_at_call 77; refine (wget_any _ _ hl).mono ?_; rintro e w1 ⟨rfl, rfl⟩)
        go_ret3
        exact ⟨by rw [ht.1, ht.2, hte]; rfl, rfl⟩
      · have ht := t_ok (l := l) ⟨he, by omega, by omega⟩
        have HT := sec ht
        clear ht
        go_enter Tryd.func76, Tryd.ntmps76
        go_wp2_with (go_at_call 77; refine (wget_any _ _ hl).mono ?_; rintro e w1 ⟨rfl, rfl⟩)
        go_ret3
        exact ⟨by rw [HT.out.1, HT.out.2.1, HT.out.2.2]; simp, rfl⟩
  · have ht : tS l = [] ∧ tK l = 0 := t_no (fun h => by have := h.1; omega)
    have hte : tE l = 2 := by unfold tE; rw [if_pos (by omega), he]
    go_enter Tryd.func76, Tryd.ntmps76
    go_wp2_with (go_at_call 77; refine (wget_any _ _ hl).mono ?_; rintro e w1 ⟨rfl, rfl⟩)
    go_ret3
    exact ⟨by rw [ht.1, ht.2, hte]; rfl, rfl⟩
set_option maxRecDepth 100000 in
theorem rgett_any (l : List UInt8) (w : World) (hl : l.length ≤ 1152921504606846976) :
    Calls Tryd.prog 78 #[.string (bs l)] w fun e w' => e = .returned (.tuple #[.string (bs (tS l)), .int .i64 (tK l : Int), .int .i64 (tE l : Int)]) ∧ Gr w w' := by
  have hk := gK_le l
  have hn := gN_lt l
  rcases gE_or l with he | he
  · by_cases h1 : 4096 < gN l
    · have ht : tS l = [] ∧ tK l = 0 := t_no (fun h => by have := h.2.1; omega)
      have hte : tE l = 1 := by unfold tE; rw [if_neg (by omega), if_pos h1]
      go_enter Tryd.func78, Tryd.ntmps78
      go_wp2_with (go_at_call 79; refine (rget_any _ _ hl).mono ?_; rintro e w1 ⟨rfl, g1⟩)
      go_ret3
      exact ⟨by rw [ht.1, ht.2, hte]; rfl, g1⟩
    · by_cases h2 : l.length - gK l < gN l
      · have ht : tS l = [] ∧ tK l = 0 := t_no (fun h => by have := h.2.2; omega)
        have hte : tE l = 2 := by unfold tE; rw [if_neg (by omega), if_neg h1, if_pos h2]
        have h2' : (l.length : Int) - gK l < gN l := by omega
        go_enter Tryd.func78, Tryd.ntmps78
        go_wp2_with (go_at_call 79; refine (rget_any _ _ hl).mono ?_; rintro e w1 ⟨rfl, g1⟩)
        go_ret3
        exact ⟨by rw [ht.1, ht.2, hte]; rfl, g1⟩
      · have ht := t_ok (l := l) ⟨he, by omega, by omega⟩
        have HT := sec ht
        clear ht
        go_enter Tryd.func78, Tryd.ntmps78
        go_wp2_with (go_at_call 79; refine (rget_any _ _ hl).mono ?_; rintro e w1 ⟨rfl, g1⟩)
        go_ret3
        exact ⟨by rw [HT.out.1, HT.out.2.1, HT.out.2.2]; simp, g1⟩
  · have ht : tS l = [] ∧ tK l = 0 := t_no (fun h => by have := h.1; omega)
    have hte : tE l = 2 := by unfold tE; rw [if_pos (by omega), he]
    go_enter Tryd.func78, Tryd.ntmps78
    go_wp2_with (go_at_call 79; refine (rget_any _ _ hl).mono ?_; rintro e w1 ⟨rfl, g1⟩)
    go_ret3
    exact ⟨by rw [ht.1, ht.2, hte]; rfl, g1⟩

end Go.Proofs.YtkgmimmneeppgaaDoor

namespace Go.Proofs.YtkgmimmneeppgaaDoor
open Go.RowKit
set_option maxRecDepth 100000 in
theorem rdText (g : Nat) (q : St) (w : World) (h : RdAt 100 w g q) :
    Calls Tryd.prog 53 #[.pointer (some ⟨g, 0, none⟩)] w fun e w' => e = .returned (.string (bs (nxtT q))) ∧ RdAt 100 w' g (aftT q) ∧ w.grownBy w' (some g) := by
  obtain ⟨s, er⟩ := q
  have hlen := h.len
  have hc0 : w.cell? ⟨g, 0, none⟩ = some (.string (bs s)) := h.blk.cell 0
  have hc1 : w.cell? ⟨g, 1, none⟩ = some (.int .i64 (er : Int)) := h.blk.cell 1
  have hf0 := h.blk.frozen 0
  have hf1 := h.blk.frozen 1
  simp only at hlen
  have hk := tK_le s
  by_cases he : er = 0
  · subst he
    go_enter Tryd.func53, Tryd.ntmps53
    go_wp2_with (go_at_call 76; refine (wgett_any _ _ hlen).mono ?_; rintro e w1 ⟨rfl, rfl⟩)
    go_ret
    refine ⟨by simp [nxtT], ⟨?_, ?_, ?_⟩, only_set2 _ _ _ _⟩
    · have := (h.blk.set_ 0 (.string (bs (s.drop (tK s))))).set_ 1 (.int .i64 (tE s : Int))
      simpa [aftT] using this
    · simp [aftT]; omega
    · simp [aftT]; have := tE_or s; omega
  · have he' : ((er : Int) == 0) = false := by simpa using he
    have he2 : ((er : Int) != 0) = true := by simpa using he
    go_enter Tryd.func53, Tryd.ntmps53
    go_wp2
    go_ret
    exact ⟨by simp [nxtT, he]; rfl, by simpa [aftT, he] using h, only_refl _ _⟩

set_option maxRecDepth 100000 in
theorem cuNumber (g : Nat) (q : St) (w : World) (h : RdAt 84 w g q) :
    Calls Tryd.prog 59 #[.pointer (some ⟨g, 0, none⟩)] w fun e w' => e = .returned (.int .i64 (nxtN q : Int)) ∧ RdAt 84 w' g (aftN q) ∧ w.grownBy w' (some g) := by
  obtain ⟨s, er⟩ := q
  have hlen := h.len
  have hc0 : w.cell? ⟨g, 0, none⟩ = some (.string (bs s)) := h.blk.cell 0
  have hc1 : w.cell? ⟨g, 1, none⟩ = some (.int .i64 (er : Int)) := h.blk.cell 1
  have hf0 := h.blk.frozen 0
  have hf1 := h.blk.frozen 1
  simp only at hlen
  have hk := gK_le s
  by_cases he : er = 0
  · subst he
    go_enter Tryd.func59, Tryd.ntmps59
    go_wp2_with (go_at_call 79; refine (rget_any _ _ hlen).mono ?_; rintro e w1 ⟨rfl, g1⟩; have hb1 := h.blk.below g1.below h.blk.lt; have hd0 : w1.cell? ⟨g, 0, none⟩ = some (.string (bs s)) := hb1.cell 0; have hd1 : w1.cell? ⟨g, 1, none⟩ = some (.int .i64 ((0 : Nat) : Int)) := hb1.cell 1; have he0 := hb1.frozen 0; have he1 := hb1.frozen 1)
    go_ret
    refine ⟨by simp [nxtN], ⟨?_, ?_, ?_⟩, only_trans (only_gr g1 _) (only_set2 _ _ _ _)⟩
    · have := (hb1.set_ 0 (.string (bs (s.drop (gK s))))).set_ 1 (.int .i64 (gE s : Int))
      simpa [aftN] using this
    · simp [aftN]; omega
    · simp [aftN]; have := gE_or s; omega
  · have he' : ((er : Int) == 0) = false := by simpa using he
    have he2 : ((er : Int) != 0) = true := by simpa using he
    go_enter Tryd.func59, Tryd.ntmps59
    go_wp2
    go_ret
    exact ⟨by simp [nxtN, he], by simpa [aftN, he] using h, only_refl _ _⟩

set_option maxRecDepth 100000 in
theorem cuText (g : Nat) (q : St) (w : World) (h : RdAt 84 w g q) :
    Calls Tryd.prog 58 #[.pointer (some ⟨g, 0, none⟩)] w fun e w' => e = .returned (.string (bs (nxtT q))) ∧ RdAt 84 w' g (aftT q) ∧ w.grownBy w' (some g) := by
  obtain ⟨s, er⟩ := q
  have hlen := h.len
  have hc0 : w.cell? ⟨g, 0, none⟩ = some (.string (bs s)) := h.blk.cell 0
  have hc1 : w.cell? ⟨g, 1, none⟩ = some (.int .i64 (er : Int)) := h.blk.cell 1
  have hf0 := h.blk.frozen 0
  have hf1 := h.blk.frozen 1
  simp only at hlen
  have hk := tK_le s
  by_cases he : er = 0
  · subst he
    go_enter Tryd.func58, Tryd.ntmps58
    go_wp2_with (go_at_call 78; refine (rgett_any _ _ hlen).mono ?_; rintro e w1 ⟨rfl, g1⟩; have hb1 := h.blk.below g1.below h.blk.lt; have hd0 : w1.cell? ⟨g, 0, none⟩ = some (.string (bs s)) := hb1.cell 0; have hd1 : w1.cell? ⟨g, 1, none⟩ = some (.int .i64 ((0 : Nat) : Int)) := hb1.cell 1; have he0 := hb1.frozen 0; have he1 := hb1.frozen 1)
    go_ret
    refine ⟨by simp [nxtT], ⟨?_, ?_, ?_⟩, only_trans (only_gr g1 _) (only_set2 _ _ _ _)⟩
    · have := (hb1.set_ 0 (.string (bs (s.drop (tK s))))).set_ 1 (.int .i64 (tE s : Int))
      simpa [aftT] using this
    · simp [aftT]; omega
    · simp [aftT]; have := tE_or s; omega
  · have he' : ((er : Int) == 0) = false := by simpa using he
    have he2 : ((er : Int) != 0) = true := by simpa using he
    go_enter Tryd.func58, Tryd.ntmps58
    go_wp2
    go_ret
    exact ⟨by simp [nxtT, he]; rfl, by simpa [aftT, he] using h, only_refl _ _⟩

set_option maxRecDepth 100000 in
theorem cuTake (g : Nat) (q : St) (n : Int) (w : World) (h : RdAt 84 w g q) (_hn : -9223372036854775808 ≤ n ∧ n ≤ 9223372036854775807) :
    Calls Tryd.prog 60 #[.pointer (some ⟨g, 0, none⟩), .int .i64 n] w fun e w' => e = .returned (.string (bs (nxtB n q))) ∧ RdAt 84 w' g (aftB n q) ∧ w.grownBy w' (some g) := by
  obtain ⟨s, er⟩ := q
  have hlen := h.len
  have hc0 : w.cell? ⟨g, 0, none⟩ = some (.string (bs s)) := h.blk.cell 0
  have hc1 : w.cell? ⟨g, 1, none⟩ = some (.int .i64 (er : Int)) := h.blk.cell 1
  have hf0 := h.blk.frozen 0
  have hf1 := h.blk.frozen 1
  simp only at hlen
  by_cases he : er = 0
  · subst he
    by_cases hn : 0 ≤ n ∧ n ≤ (s.length : Int)
    · obtain ⟨hn0, hn1⟩ := hn
      go_enter Tryd.func60, Tryd.ntmps60
      go_wp2
      go_ret
      refine ⟨by simp [nxtB, hn0, hn1], ⟨?_, ?_, ?_⟩, only_set1 _ _ _ _⟩
      · have := h.blk.set_ 0 (.string (bs (s.drop n.toNat)))
        simpa [aftB, hn0, hn1] using this
      · simp [aftB, hn0, hn1]; omega
      · simp [aftB, hn0, hn1]
    · have hn' : n < 0 ∨ (s.length : Int) < n := by omega
      rcases hn' with hn' | hn'
      all_goals
        go_enter Tryd.func60, Tryd.ntmps60
        go_wp2
        go_ret
        refine ⟨by simp [nxtB, hn]; try rfl, ⟨?_, ?_, ?_⟩, only_set1 _ _ _ _⟩
        · have := h.blk.set_ 1 (.int .i64 2)
          simpa [aftB, hn] using this
        · simp [aftB, hn]; omega
        · simp [aftB, hn]
  · have he' : ((er : Int) == 0) = false := by simpa using he
    have he2 : ((er : Int) != 0) = true := by simpa using he
    go_enter Tryd.func60, Tryd.ntmps60
    go_wp2
    go_ret
    exact ⟨by simp [nxtB, he]; try rfl, by simpa [aftB, he] using h, only_refl _ _⟩

end Go.Proofs.YtkgmimmneeppgaaDoor

namespace Go.Proofs.YtkgmimmneeppgaaDoor
set_option maxRecDepth 100000
open Go.RowKit
set_option linter.unusedVariables false
theorem DcAt.fits {k n0 : Nat} {q0 : St} {i n : Nat} {q : St} {W : List Int} {S : List (List UInt8)} (h : DcAt k n0 q0 i n q W S) (hk : k ≤ 1099511627775) : W.length ≤ 1099511627776 ∧ S.length ≤ 1099511627776 := by
  have := h.wl; have := h.sl; have := h.le; omega
section
variable {w0 : World} {q K : Nat} {cs : Array Value} {X Y : Value} {N M : Nat} {F : List Int} {G : List (List UInt8)} {w w' : World}
theorem Md.rd {T : TypeId} {g : Nat} {st : St} {W : World} (h : Md w0 q K cs X Y N M F G w) (gx : Gr w W) (hd : RdAt T w g st) (h1 : 3 ≠ T) (h2 : 9 ≠ T) (hq : q ≠ g) (hg : w0.heap.size ≤ g) (k : W.grownBy w' (some g)) : Md w0 q K cs X Y N M F G w' :=
  (h.gr' gx).only (hd.gr gx).blk h1 h2 hq hg k
theorem Md.rdApp1 {T : TypeId} {g : Nat} {st : St} (h : Md w0 q K cs X Y N M F G w) (hd : RdAt T w g st) (h1 : 3 ≠ T) (k : w.grownBy w' X.ownBlock) : RdAt T w' g st := ⟨h.keep1 hd.blk h1 k, hd.len, hd.err⟩
theorem Md.rdApp2 {T : TypeId} {g : Nat} {st : St} (h : Md w0 q K cs X Y N M F G w) (hd : RdAt T w g st) (h1 : 9 ≠ T) (k : w.grownBy w' Y.ownBlock) : RdAt T w' g st := ⟨h.keep2 hd.blk h1 k, hd.len, hd.err⟩
theorem RdAt.far {T : TypeId} {g : Nat} {st : St} (hd : RdAt T w g st) {a : Addr} (hne : g ≠ a.block) (u : Value) : RdAt T (w.setCell a u) g st := ⟨hd.blk.far hne u, hd.len, hd.err⟩
end
set_option maxHeartbeats 16000000 in
theorem stDec_any (b : List UInt8) (w : World) (hb : b.length ≤ 1099511627775) :
    Calls Tryd.prog 28 #[.string (bs b)] w fun e w' => ∃ A c B d, e = .returned (.tuple #[.agg (stepA (dcR b).1 A c B d), .int .i64 (dcR b).2]) ∧ StR w' (dcR b).1 A c B d ∧ Gr w w' := by
  obtain ⟨wa, hwa⟩ : ∃ y, y = w.alloc (.cells (stepA stpZ none 0 none 0) 46) := ⟨_, rfl⟩
  have hz : Blk wa w.heap.size 46 (stepA stpZ none 0 none 0) := by rw [hwa]; exact Blk.new w _ _
  have hg0 : Gr w wa := by rw [hwa]; exact (Gr.refl w).alloc _
  obtain ⟨p, hp⟩ : ∃ p, p = w.heap.size := ⟨_, rfl⟩
  rw [← hp] at hz
  have hwp : w.heap.size ≤ p := by omega
  obtain ⟨g, hg⟩ : ∃ g, g = wa.heap.size := ⟨_, rfl⟩
  have hpg : p < g := by rw [hg]; exact hz.lt
  have hga : wa.heap.size ≤ g := by omega
  obtain ⟨R, hR⟩ : ∃ x, x = nxtT (b, 0) := ⟨_, rfl⟩
  obtain ⟨O, hO⟩ : ∃ x, x = nxtT (aftT (b, 0)) := ⟨_, rfl⟩
  obtain ⟨L, hL⟩ : ∃ x, x = nxtT (aftT (aftT (b, 0))) := ⟨_, rfl⟩
  obtain ⟨q1, hq1⟩ : ∃ x, x = aftT (b, 0) := ⟨_, rfl⟩
  obtain ⟨q2, hq2⟩ : ∃ x, x = aftT q1 := ⟨_, rfl⟩
  obtain ⟨q3, hq3⟩ : ∃ x, x = dc3 b := ⟨_, rfl⟩
  obtain ⟨n0, hn0⟩ : ∃ x, x = nxtN q3 := ⟨_, rfl⟩
  obtain ⟨q4, hq4⟩ : ∃ x, x = aftN q3 := ⟨_, rfl⟩
  have hq3' : q3 = aftT q2 := by rw [hq3, hq2, hq1]; rfl
  have HRd : Sec (Calls Tryd.prog 52 #[.string (bs b)] wa fun e w' => e = .returned (.pointer (some ⟨g, 0, none⟩)) ∧ RdAt 100 w' g (b, 0) ∧ Gr wa w') := sec (by rw [hg]; exact rdRead b wa (by omega))
  have HT1 : Sec (∀ W, RdAt 100 W g (b, 0) → Calls Tryd.prog 53 #[.pointer (some ⟨g, 0, none⟩)] W fun e w' => e = .returned (.string (bs R)) ∧ RdAt 100 w' g q1 ∧ W.grownBy w' (some g)) := sec (fun W h => by rw [hR, hq1]; exact rdText g (b, 0) W h)
  have HT2 : Sec (∀ W, RdAt 100 W g q1 → Calls Tryd.prog 53 #[.pointer (some ⟨g, 0, none⟩)] W fun e w' => e = .returned (.string (bs O)) ∧ RdAt 100 w' g q2 ∧ W.grownBy w' (some g)) := sec (fun W h => by rw [hO, ← hq1, hq2]; exact rdText g q1 W h)
  have HT3 : Sec (∀ W, RdAt 100 W g q2 → Calls Tryd.prog 53 #[.pointer (some ⟨g, 0, none⟩)] W fun e w' => e = .returned (.string (bs L)) ∧ RdAt 100 w' g q3 ∧ W.grownBy w' (some g)) := sec (fun W h => by rw [hL, ← hq1, ← hq2, hq3']; exact rdText g q2 W h)
  have HNu : Sec (∀ q W, RdAt 100 W g q → Calls Tryd.prog 54 #[.pointer (some ⟨g, 0, none⟩)] W fun e w' => e = .returned (.int .i64 (nxtN q : Int)) ∧ RdAt 100 w' g (aftN q) ∧ W.grownBy w' (some g)) := sec (fun q W h => rdNumber g q W h)
  have HBy : Sec (∀ q W, RdAt 100 W g q → Calls Tryd.prog 56 #[.pointer (some ⟨g, 0, none⟩), .int .i64 32] W fun e w' => e = .returned (.string (bs (nxtB 32 q))) ∧ RdAt 100 w' g (aftB 32 q) ∧ W.grownBy w' (some g)) := sec (fun q W h => rdBytes g q 32 W h (by omega))
  have HBad : Sec (∀ q W, RdAt 100 W g q → Calls Tryd.prog 55 #[.pointer (some ⟨g, 0, none⟩)] W fun e w' => e = .returned (.int .i64 (q.2 : Int)) ∧ W = w') := sec (fun q W h => rdBad g q W h)
  have HLe : Sec (∀ q W, RdAt 100 W g q → Calls Tryd.prog 57 #[.pointer (some ⟨g, 0, none⟩)] W fun e w' => e = .returned (.int .i64 (q.1.length : Int)) ∧ W = w') := sec (fun q W h => rdLeft g q W h)
  have hq0l : q4.1.length ≤ b.length := by
    have h1 := aftN_le q3
    have h2 := dc3_le b
    rw [← hq3] at h2
    rw [hq4]; omega
  have hn0l : n0 < 4611686018427387904 := by rw [hn0]; exact nxtN_lt q3
  have HST := sec (DcAt.start (n0 := n0) hq0l)
  have hRl : R.length ≤ 1099511627776 := by have := nxtT_le (b, 0); simp only at this; rw [hR]; omega
  have hOl : O.length ≤ 1099511627776 := by have := nxtT_le (aftT (b, 0)); have := aftT_le (b, 0); simp only at this; rw [hO]; omega
  have hLl : L.length ≤ 1099511627776 := by have := nxtT_le (aftT (aftT (b, 0))); have := aftT_le (aftT (b, 0)); have := aftT_le (b, 0); simp only at this; rw [hL]; omega
  have HRES : Sec (∀ (q : St) (F : List Int) (G : List (List UInt8)), dcL n0 q4 = (F, G, q) → dcR b = if q.2 = 0 ∧ q.1.length = 0 then (if stE ⟨R, O, L, F, G⟩ = 0 then (⟨R, O, L, F, G⟩, 0) else (stpZ, stE ⟨R, O, L, F, G⟩)) else (stpZ, 2)) := sec (fun q F G h => by
    have h' : dcLs b = (F, G, q) := by rw [← h, hn0, hq4, hq3]; rfl
    unfold dcR dcS
    rw [h', hR, hO, hL])
  have HGo : Sec (∀ (F : List Int) (G : List (List UInt8)) A c B d W, F.length ≤ 1099511627776 → G.length ≤ 1099511627776 → (∀ x ∈ G, x.length ≤ 32) → StR W ⟨R, O, L, F, G⟩ A c B d → Calls Tryd.prog 25 #[.agg (stepA ⟨R, O, L, F, G⟩ A c B d)] W fun e w' => e = .returned (.int .i64 (stE ⟨R, O, L, F, G⟩)) ∧ Gr W w') := sec (fun F G A c B d W h1 h2 h3 hr => stGood_any _ A c B d W hr ⟨hRl, hOl, hLl, h1, h2, fun x hx => Nat.le_trans (h3 x hx) (by omega)⟩)
  have HN3 : Sec (∀ W, RdAt 100 W g q3 → Calls Tryd.prog 54 #[.pointer (some ⟨g, 0, none⟩)] W fun e w' => e = .returned (.int .i64 (n0 : Int)) ∧ RdAt 100 w' g q4 ∧ W.grownBy w' (some g)) := sec (fun W h => by rw [hn0, hq4]; exact rdNumber g q3 W h)
  have HB := sec hb
  have HZ := sec hz
  obtain ⟨V, hV⟩ : ∃ V, V = dcR b := ⟨_, rfl⟩
  rw [← hV] at HRES ⊢
  clear hV hR hO hL hq1 hq2 hq3 hq3' hn0 hq4 hq0l hRl hOl hLl hz
  unfold stepA stpZ at hwa
  simp only [List.length_nil] at hwa
  go_enter Tryd.func28, Tryd.ntmps28
  go_upto_region 1 with fail
  rw [← hwa, ← hp]
  clear hwa hp
  clear hg
  go_upto_region 3 with (first
    | (go_at_call 52; refine Calls.mono HRd.out ?_; rintro e w1 ⟨rfl, d1, g1⟩)
    | (go_at_call 53; refine Calls.mono (HT1.out _ d1) ?_; rintro e w2 ⟨rfl, d2, g2⟩; have G2 : Gr wa w2 := Gr.only g1 g2 hga)
    | (go_at_call 53; refine Calls.mono (HT2.out _ d2) ?_; rintro e w3 ⟨rfl, d3, g3⟩; have G3 : Gr wa w3 := Gr.only G2 g3 hga)
    | (go_at_call 53; refine Calls.mono (HT3.out _ d3) ?_; rintro e w4 ⟨rfl, d4, g4⟩; have G4 : Gr wa w4 := Gr.only G3 g4 hga))
  obtain ⟨k, hk⟩ : ∃ k, k = w4.heap.size := ⟨_, rfl⟩
  clear d1 d2 d3 g2 g3 G2 G3
  have HCELL : Sec (wa.heap.size ≤ k ∧ g < k) := sec ⟨by rw [hk]; exact G4.size, by rw [hk]; exact d4.blk.lt⟩
  have HT0 : Sec (Tw wa k (k + 1) R O L 0 [] [] (w4.alloc (.cells #[.string (bs R), .string (bs O), .string (bs L), .slice none 0 0, .slice none 0 0] 46))) := sec (Tw.new (by rw [hk]; exact Blk.new _ _ _) (G4.alloc _) (by omega) HCELL.out.1)
  have HD0 := sec (d4.gr ((Gr.refl w4).alloc (.cells #[.string (bs R), .string (bs O), .string (bs L), .slice none 0 0, .slice none 0 0] 46)))
  rw [← hk]
  obtain ⟨wb, hwb⟩ : ∃ y, y = w4.alloc (.cells #[.string (bs R), .string (bs O), .string (bs L), .slice none 0 0, .slice none 0 0] 46) := ⟨_, rfl⟩
  rw [← hwb] at HT0 HD0 ⊢
  clear hk hwb d4 g4 G4
  have HC : Sec (∀ A c N B d M X Y N' M' F G W, Md wa k (k + 1) (TwA R O L A c N B d M) X Y N' M' F G W → W.cell? ⟨k, 3, none⟩ = some (.slice A N c) ∧ W.cell? ⟨k, 4, none⟩ = some (.slice B M d) ∧ W.frozen? ⟨k, 3, none⟩ = false ∧ W.frozen? ⟨k, 4, none⟩ = false) := sec (fun A c N B d M X Y N' M' F G W h => ⟨h.blk.cell 3, h.blk.cell 4, h.blk.frozen 3, h.blk.frozen 4⟩)
  have HDC : Sec (∀ q W, RdAt 100 W g q → W.cell? ⟨g, 0, none⟩ = some (.string (bs q.1)) ∧ W.cell? ⟨g, 1, none⟩ = some (.int .i64 (q.2 : Int))) := sec (fun q W h => ⟨h.blk.cell 0, h.blk.cell 1⟩)
  have hkg : k ≠ g := by have := HCELL.out.2; omega
  have hgk : g ≠ k := by omega
  go_upto_block 0 with (first
    | (go_at_call 54; refine Calls.mono (HN3.out _ HD0.out) ?_; rintro e w5 ⟨rfl, d5, g5⟩; have T5 := sec (HT0.out.only HD0.out.blk (by decide) (by decide) hkg hga g5); have D5 := sec d5; clear d5 g5))
  clear HT1 HT2 HT3 HN3 HRd HT0 HD0
  go_cut [] from 19 to 41 (fun wx => Sec (∃ q F G N, dcL n0 q4 = (F, G, q) ∧ F.length ≤ 1099511627776 ∧ G.length ≤ 1099511627776 ∧ (∀ x ∈ G, x.length ≤ 32) ∧ RdAt 100 wx g q ∧ Tw wa k (k + 1) R O L N F G wx))
  case first =>
    go_wp2_with fail
    go_loopg [6] n0 (fun fuel iv wr => ∃ n : Nat, iv = .int .i64 (n : Int) ∧ n ≤ fuel ∧ n ≤ n0 ∧ Sec (∃ i q F G, DcAt b.length n0 q4 i n q F G ∧ RdAt 100 wr g q ∧ Tw wa k (k + 1) R O L i F G wr))
    case atStart => exact ⟨n0, rfl, by omega, by omega, sec ⟨0, q4, [], [], HST.out, D5.out, T5.out⟩⟩
    case round =>
      clear T5 D5
      obtain ⟨n, rfl, hfu, hnn, HF⟩ := hrel
      obtain ⟨i, q, F, G, hDc, hD, A1, c1, B1, d1, M0⟩ := HF.out
      have HDc := sec hDc
      have hfit := hDc.fits HB.out
      have hil : i ≤ b.length + 1 := hDc.le
      have HFI := sec hfit
      have HBB := sec (show i ≤ 1099511627776 by have := HB.out; omega)
      obtain ⟨y0, y1⟩ := HDC.out _ _ hD
      have HD := sec hD
      have HM := sec M0
      clear hDc HF hfit hil
      by_cases hn : 0 < n
      · have hni : (0 : Int) < (n : Int) := by omega
        by_cases hq : q.2 = 0
        · have hqi : ((q.2 : Int) == 0) = true := by rw [beq_iff_eq]; omega
          have HNX : Sec (DcAt b.length n0 q4 (i + 1) (n - 1) (aftB 32 (aftN q)) (F ++ [(nxtN q : Int)]) (G ++ [nxtB 32 (aftN q)])) := sec (by have h := HDc.out; rw [show n = (n - 1) + 1 by omega] at h; exact h.next hq)
          obtain ⟨x, hx⟩ : ∃ x, x = nxtN q := ⟨_, rfl⟩
          have HN1 : Sec (∀ W, RdAt 100 W g q → Calls Tryd.prog 54 #[.pointer (some ⟨g, 0, none⟩)] W fun e w' => e = .returned (.int .i64 (x : Int)) ∧ RdAt 100 w' g (aftN q) ∧ W.grownBy w' (some g)) := sec (by rw [hx]; exact HNu.out q)
          obtain ⟨sv, hsv⟩ : ∃ x, x = nxtB 32 (aftN q) := ⟨_, rfl⟩
          have HB1 : Sec (∀ W, RdAt 100 W g (aftN q) → Calls Tryd.prog 56 #[.pointer (some ⟨g, 0, none⟩), .int .i64 32] W fun e w' => e = .returned (.string (bs sv)) ∧ RdAt 100 w' g (aftB 32 (aftN q)) ∧ W.grownBy w' (some g)) := sec (by rw [hsv]; exact HBy.out (aftN q))
          rw [← hx, ← hsv] at HNX
          have hb8 : (i + 1) * 8 ≤ 140737488355328 := by have := HBB.out; omega
          have hb16 : (i + 1) * 16 ≤ 140737488355328 := by have := HBB.out; omega
          have hbm : i + 1 ≤ maxLen := by have := HBB.out; unfold maxLen; omega
          clear hx hsv hq
          clear hD M0
          go_upto_region 6 with (go_at_call 55; refine Calls.mono (HBad.out _ _ HD.out) ?_; rintro e w6 ⟨rfl, rfl⟩)
          obtain ⟨x0, x1, x2, x3⟩ := HC.out _ _ _ _ _ _ _ _ _ _ _ _ _ HM.out
          go_cut [] from 28 to 34 (fun wx => Sec (∃ A c, Md wa k (k + 1) (TwA R O L A c (i + 1) B1 d1 i) (.slice A (i + 1) c) (.slice B1 i d1) (i + 1) i (F ++ [(x : Int)]) G wx) ∧ Sec (RdAt 100 wx g (aftN q)))
          case first =>
            go_region_law (first
              | (go_simp; go_at_call 54; (refine Calls.mono (HN1.out _ (RdAt.gr HD.out ?gx)) ?_); (case gx => first | exact Gr.refl _ | exact (Gr.refl _).drew); rintro e w1 ⟨rfl, D1, g1⟩; have M1 : Md wa k (k + 1) (TwA R O L A1 c1 i B1 d1 i) (.slice A1 i c1) (.slice B1 i d1) i i F G w1 := (by first | exact HM.out.rd (Gr.refl _) HD.out (by decide) (by decide) hkg hga g1 | exact HM.out.rd (Gr.refl _).drew HD.out (by decide) (by decide) hkg hga g1); obtain ⟨a0, a1, a2, a3⟩ := HC.out _ _ _ _ _ _ _ _ _ _ _ _ _ M1; obtain ⟨c0, c1', c2', c3⟩ := HC.out _ _ _ _ _ _ _ _ _ _ _ _ _ (M1.al (.cells #[.int .i64 (x : Int)] 3)))
              | (refine step_append_row (B := k + 1) (A0 := A1) (n0 := i) (cap0 := c1) (xs := F.map iV) (A := some ⟨w1.heap.size, 0, none⟩) (n := 1) (c := 1) (vs := [.int .i64 (x : Int)]) E.ints rfl (.tmp 29) (.tmp 32) rfl ?hd ?ho ?hx (row1 (T := 3) ?hr) (fun h => by cases h) (fun u hu => by simp at hu; subst hu; rfl) hb8 hbm ?hB ?_; (case hd => first | (simp [Act.eval]; done) | (simp [Act.eval, Act.put]; done)); (case hx => first | (simp [Act.eval]; done) | (simp [Act.eval, Act.put]; done)); (case ho => refine Md.own1 (w0 := wa) (q := k) (K := k + 1) (cs := TwA R O L A1 c1 i B1 d1 i) (X := .slice A1 i c1) (Y := .slice B1 i d1) (N := i) (M := i) (F := F) (G := G) ?_; (repeat (first | with_reducible exact M1 | with_reducible refine Md.drew ?_ | with_reducible refine Md.al ?_ _)); done); (case hr => (repeat (first | (with_reducible refine BlkAt ?_; simp; done) | with_reducible refine Blk.drew ?_ | with_reducible refine Blk.alloc ?_ _)); done); (case hB => refine Md.size (w0 := wa) (q := k) (K := k + 1) (cs := TwA R O L A1 c1 i B1 d1 i) (X := .slice A1 i c1) (Y := .slice B1 i d1) (N := i) (M := i) (F := F) (G := G) ?_ (Nat.le_refl _); (repeat (first | with_reducible exact M1 | with_reducible refine Md.drew ?_ | with_reducible refine Md.al ?_ _)); done); intro Aa ka wA oA hA; rw [iV_add] at oA; have MA : Md wa k (k + 1) (TwA R O L A1 c1 i B1 d1 i) (.slice Aa (i + 1) ka) (.slice B1 i d1) (i + 1) i (F ++ [(x : Int)]) G wA := (by refine Md.app1 (w0 := wa) (q := k) (K := k + 1) (cs := TwA R O L A1 c1 i B1 d1 i) (X := .slice A1 i c1) (Y := .slice B1 i d1) (N := i) (M := i) (F := F) (G := G) ?_ oA hA; repeat (first | with_reducible exact M1 | with_reducible refine Md.drew ?_ | with_reducible refine Md.al ?_ _)); have DA : RdAt 100 wA g (aftN q) := (by refine Md.rdApp1 (w0 := wa) (q := k) (K := k + 1) (cs := TwA R O L A1 c1 i B1 d1 i) (X := .slice A1 i c1) (Y := .slice B1 i d1) (N := i) (M := i) (F := F) (G := G) ?hm (RdAt.gr D1 ?hg) (by decide) hA; (case hm => (repeat (first | with_reducible exact M1 | with_reducible refine Md.drew ?_ | with_reducible refine Md.al ?_ _)); done); (case hg => (first | exact (Gr.refl _).alloc _ | exact ((Gr.refl _).alloc _).drew | exact ((Gr.refl _).drew.alloc _)))); obtain ⟨b0, b1, b2, b3⟩ := HC.out _ _ _ _ _ _ _ _ _ _ _ _ _ MA))
            all_goals
              go_wp2_with fail
              go_meet
              exact ⟨sec ⟨Aa, ka, MA.st 3 _⟩, sec (DA.far hgk _)⟩
          case rest =>
            obtain ⟨HM2', HD2⟩ := hcut
            obtain ⟨A2, c2, hM2⟩ := HM2'.out
            have HM2 := sec hM2
            clear HM2' hM2 HM HD y0 y1 x0 x1 x2 x3
            obtain ⟨x0, x1, x2, x3⟩ := HC.out _ _ _ _ _ _ _ _ _ _ _ _ _ HM2.out
            go_upto_region 7 with fail
            go_region_law (first
              | (go_simp; go_at_call 56; (refine Calls.mono (HB1.out _ (RdAt.gr HD2.out ?gx)) ?_); (case gx => first | exact Gr.refl _ | exact (Gr.refl _).drew); rintro e w1 ⟨rfl, D1, g1⟩; have M1 : Md wa k (k + 1) (TwA R O L A2 c2 (i + 1) B1 d1 i) (.slice A2 (i + 1) c2) (.slice B1 i d1) (i + 1) i (F ++ [(x : Int)]) G w1 := (by first | exact HM2.out.rd (Gr.refl _) HD2.out (by decide) (by decide) hkg hga g1 | exact HM2.out.rd (Gr.refl _).drew HD2.out (by decide) (by decide) hkg hga g1); obtain ⟨a0, a1, a2, a3⟩ := HC.out _ _ _ _ _ _ _ _ _ _ _ _ _ M1; obtain ⟨c0, c1', c2', c3⟩ := HC.out _ _ _ _ _ _ _ _ _ _ _ _ _ (M1.al (.cells #[.string (bs sv)] 9)))
              | (refine step_append_row (B := k + 1) (A0 := B1) (n0 := i) (cap0 := d1) (xs := G.map strV) (A := some ⟨w1.heap.size, 0, none⟩) (n := 1) (c := 1) (vs := [.string (bs sv)]) E.str rfl (.tmp 36) (.tmp 39) rfl ?hd ?ho ?hx (row1 (T := 9) ?hr) (fun h => by cases h) (fun u hu => by simp at hu; subst hu; rfl) hb16 hbm ?hB ?_; (case hd => first | (simp [Act.eval]; done) | (simp [Act.eval, Act.put]; done)); (case hx => first | (simp [Act.eval]; done) | (simp [Act.eval, Act.put]; done)); (case ho => refine Md.own2 (w0 := wa) (q := k) (K := k + 1) (cs := TwA R O L A2 c2 (i + 1) B1 d1 i) (X := .slice A2 (i + 1) c2) (Y := .slice B1 i d1) (N := i + 1) (M := i) (F := F ++ [(x : Int)]) (G := G) ?_; (repeat (first | with_reducible exact M1 | with_reducible refine Md.drew ?_ | with_reducible refine Md.al ?_ _)); done); (case hr => (repeat (first | (with_reducible refine BlkAt ?_; simp; done) | with_reducible refine Blk.drew ?_ | with_reducible refine Blk.alloc ?_ _)); done); (case hB => refine Md.size (w0 := wa) (q := k) (K := k + 1) (cs := TwA R O L A2 c2 (i + 1) B1 d1 i) (X := .slice A2 (i + 1) c2) (Y := .slice B1 i d1) (N := i + 1) (M := i) (F := F ++ [(x : Int)]) (G := G) ?_ (Nat.le_refl _); (repeat (first | with_reducible exact M1 | with_reducible refine Md.drew ?_ | with_reducible refine Md.al ?_ _)); done); intro Bb kb wA oA hA; rw [sV_add] at oA; have MA : Md wa k (k + 1) (TwA R O L A2 c2 (i + 1) B1 d1 i) (.slice A2 (i + 1) c2) (.slice Bb (i + 1) kb) (i + 1) (i + 1) (F ++ [(x : Int)]) (G ++ [sv]) wA := (by refine Md.app2 (w0 := wa) (q := k) (K := k + 1) (cs := TwA R O L A2 c2 (i + 1) B1 d1 i) (X := .slice A2 (i + 1) c2) (Y := .slice B1 i d1) (N := i + 1) (M := i) (F := F ++ [(x : Int)]) (G := G) ?_ oA hA; repeat (first | with_reducible exact M1 | with_reducible refine Md.drew ?_ | with_reducible refine Md.al ?_ _)); have DA : RdAt 100 wA g (aftB 32 (aftN q)) := (by refine Md.rdApp2 (w0 := wa) (q := k) (K := k + 1) (cs := TwA R O L A2 c2 (i + 1) B1 d1 i) (X := .slice A2 (i + 1) c2) (Y := .slice B1 i d1) (N := i + 1) (M := i) (F := F ++ [(x : Int)]) (G := G) ?hm (RdAt.gr D1 ?hg) (by decide) hA; (case hm => (repeat (first | with_reducible exact M1 | with_reducible refine Md.drew ?_ | with_reducible refine Md.al ?_ _)); done); (case hg => (first | exact (Gr.refl _).alloc _ | exact ((Gr.refl _).alloc _).drew | exact ((Gr.refl _).drew.alloc _)))); obtain ⟨b0, b1, b2, b3⟩ := HC.out _ _ _ _ _ _ _ _ _ _ _ _ _ MA))
            all_goals
              go_wp2_with fail
              go_roundg (gk - 1)
              case rel => exact ⟨n - 1, by go_num, by omega, by omega, sec ⟨i + 1, aftB 32 (aftN q), F ++ [(x : Int)], G ++ [sv], HNX.out, DA.far hgk _, _, _, _, _, MA.st 4 _⟩⟩
              case measure => omega
        · have hqi : ((q.2 : Int) == 0) = false := by rw [beq_eq_false_iff_ne]; omega
          have HQ0 := sec hq
          clear hq
          go_wp2_with (go_at_call 55; refine Calls.mono (HBad.out _ _ HD.out) ?_; rintro e w6 ⟨rfl, rfl⟩)
          go_meet
          exact sec ⟨q, F, G, i, HDc.out.bad HQ0.out, HFI.out.1, HFI.out.2, HDc.out.each, HD.out, _, _, _, _, HM.out⟩
      · obtain rfl : n = 0 := by omega
        have HDN : Sec (dcL n0 q4 = (F, G, q)) := sec HDc.out.done
        go_wp2_with fail
        go_meet
        exact sec ⟨q, F, G, i, HDN.out, HFI.out.1, HFI.out.2, HDc.out.each, HD.out, _, _, _, _, HM.out⟩
  case rest =>
    obtain ⟨q, F, G, N, h1, h2, h3, h4, hD, A1, c1, B1, d1, M0⟩ := hcut.out
    have HR := HRES.out q F G h1
    obtain ⟨S0, e1⟩ := M0.str
    have B0 := M0.blk
    rw [e1] at B0
    obtain ⟨y0, y1⟩ := HDC.out _ _ hD
    have GX : Gr wa wc := M0.gr
    by_cases hq : q.2 = 0
    · have hqi : (q.2 : Int) = 0 := by omega
      by_cases hl : q.1.length = 0
      · rw [if_pos ⟨hq, hl⟩] at HR
        have GOx : Sec (Calls Tryd.prog 25 #[.agg (stepA ⟨R, O, L, F, G⟩ A1 c1 B1 d1)] wc fun e w' => e = .returned (.int .i64 (stE ⟨R, O, L, F, G⟩)) ∧ Gr wc w') := sec (HGo.out F G A1 c1 B1 d1 _ h2 h3 h4 S0)
        obtain ⟨E, hE⟩ : ∃ E, E = stE ⟨R, O, L, F, G⟩ := ⟨_, rfl⟩
        rw [← hE] at HR GOx
        have HMM := sec M0
        clear HGo h1 h2 h3 h4 S0 e1 hE M0
        by_cases hE0 : E = 0
        · subst hE0
          rw [if_pos rfl] at HR
          have HR := sec HR
          have hlz : ¬ (0 : Int) < (q.1.length : Int) := by omega
          go_wp2_with (first
            | (go_at_call 55; refine Calls.mono (HBad.out _ _ hD) ?_; rintro e w6 ⟨rfl, rfl⟩)
            | (go_at_call 57; refine Calls.mono (HLe.out _ _ hD) ?_; rintro e w7 ⟨rfl, rfl⟩)
            | (go_at_call 25; refine Calls.mono GOx.out ?_; rintro e w8 ⟨rfl, g8⟩; have B8 := B0.gr g8; have G8 := GX.trans g8)
            | (refine wpList_load_blk rfl 46 (.tmp 5) rfl (g := k) rfl B0 aggStep ?_)
            | (refine wpList_load_blk rfl 46 (.tmp 5) rfl (g := k) rfl B8 aggStep ?_)
            | (refine wpList_store_blk rfl 46 (.tmp 2) (.tmp 57) rfl (g := p) (cs' := stepA ⟨R, O, L, F, G⟩ A1 c1 B1 d1) rfl rfl (HZ.out.gr G8) aggStep rfl (stepA_one _ _ _ _ _) ?_; intro w9 h9 hg9))
          refine bodyPost_ret (results_blk_tmp rfl _ rfl h9 aggStep) rfl ?_
          rw [HR.out]
          obtain ⟨s1, s2⟩ := str_own (r := R) (o := O) (n := L) (own_only (HMM.out.gr' g8).own1 (HZ.out.gr G8) (by decide) hg9) (own_only (HMM.out.gr' g8).own2 (HZ.out.gr G8) (by decide) hg9)
          exact ⟨A1, c1, B1, d1, rfl, s1, Gr.only (hg0.trans G8) hg9 hwp⟩
        · rw [if_neg hE0] at HR
          have HR := sec HR
          have m0 : (E != 0) = true := by simpa using hE0
          clear hE0
          have hlz : ¬ (0 : Int) < (q.1.length : Int) := by omega
          go_wp2_with (first
            | (go_at_call 55; refine Calls.mono (HBad.out _ _ hD) ?_; rintro e w6 ⟨rfl, rfl⟩)
            | (go_at_call 57; refine Calls.mono (HLe.out _ _ hD) ?_; rintro e w7 ⟨rfl, rfl⟩)
            | (go_at_call 25; refine Calls.mono GOx.out ?_; rintro e w8 ⟨rfl, g8⟩; have B8 := B0.gr g8; have G8 := GX.trans g8)
            | (refine wpList_load_blk rfl 46 (.tmp 5) rfl (g := k) rfl B0 aggStep ?_)
            | (refine wpList_store_blk rfl 46 (.tmp 2) _ rfl (g := p) (cs' := stepA stpZ none 0 none 0) rfl rfl (HZ.out.gr G8) aggStep rfl (stepA_one _ _ _ _ _) ?_; intro w9 h9 hg9))
          refine bodyPost_ret (results_blk_tmp rfl _ rfl h9 aggStep) rfl ?_
          rw [HR.out]
          exact ⟨none, 0, none, 0, rfl, StR.zero _, Gr.only (hg0.trans G8) hg9 hwp⟩
      · have HR : Sec (V = (stpZ, 2)) := sec (by rw [HR, if_neg (fun h => hl h.2)])
        clear h1 h2 h3 h4 S0 e1 M0 B0
        have hlz : (0 : Int) < (q.1.length : Int) := by omega
        go_wp2_with (first
          | (go_at_call 55; refine Calls.mono (HBad.out _ _ hD) ?_; rintro e w6 ⟨rfl, rfl⟩)
          | (go_at_call 57; refine Calls.mono (HLe.out _ _ hD) ?_; rintro e w7 ⟨rfl, rfl⟩)
          | (refine wpList_store_blk rfl 46 (.tmp 2) _ rfl (g := p) (cs' := stepA stpZ none 0 none 0) rfl rfl (HZ.out.gr GX) aggStep rfl (stepA_one _ _ _ _ _) ?_; intro w9 h9 hg9))
        refine bodyPost_ret (results_blk_tmp rfl _ rfl h9 aggStep) rfl ?_
        rw [HR.out]
        exact ⟨none, 0, none, 0, rfl, StR.zero _, Gr.only (hg0.trans GX) hg9 hwp⟩
    · have HR : Sec (V = (stpZ, 2)) := sec (by rw [HR, if_neg (fun h => hq h.1)])
      clear h1 h2 h3 h4 S0 e1 M0 B0
      have hqi : ¬ (q.2 : Int) = 0 := by omega
      go_wp2_with (first
        | (go_at_call 55; refine Calls.mono (HBad.out _ _ hD) ?_; rintro e w6 ⟨rfl, rfl⟩)
        | (go_at_call 57; refine Calls.mono (HLe.out _ _ hD) ?_; rintro e w7 ⟨rfl, rfl⟩)
        | (refine wpList_store_blk rfl 46 (.tmp 2) _ rfl (g := p) (cs' := stepA stpZ none 0 none 0) rfl rfl (HZ.out.gr GX) aggStep rfl (stepA_one _ _ _ _ _) ?_; intro w9 h9 hg9))
      refine bodyPost_ret (results_blk_tmp rfl _ rfl h9 aggStep) rfl ?_
      rw [HR.out]
      exact ⟨none, 0, none, 0, rfl, StR.zero _, Gr.only (hg0.trans GX) hg9 hwp⟩
end Go.Proofs.YtkgmimmneeppgaaDoor

namespace Go.Proofs.YtkgmimmneeppgaaDoor
set_option maxRecDepth 100000
open Go.RowKit
set_option linter.unusedVariables false
set_option maxHeartbeats 16000000 in
theorem rstDec_any (b : List UInt8) (w : World) (hb : b.length ≤ 1099511627775) :
    Calls Tryd.prog 29 #[.string (bs b)] w fun e w' => ∃ A c B d, e = .returned (.tuple #[.agg (stepA (dcR b).1 A c B d), .int .i64 (dcR b).2]) ∧ StR w' (dcR b).1 A c B d ∧ Gr w w' := by
  obtain ⟨wa, hwa⟩ : ∃ y, y = w.alloc (.cells (stepA stpZ none 0 none 0) 46) := ⟨_, rfl⟩
  have hz : Blk wa w.heap.size 46 (stepA stpZ none 0 none 0) := by rw [hwa]; exact Blk.new w _ _
  have hg0 : Gr w wa := by rw [hwa]; exact (Gr.refl w).alloc _
  obtain ⟨p, hp⟩ : ∃ p, p = w.heap.size := ⟨_, rfl⟩
  rw [← hp] at hz
  have hwp : w.heap.size ≤ p := by omega
  obtain ⟨g, hg⟩ : ∃ g, g = wa.heap.size := ⟨_, rfl⟩
  have hpg : p < g := by rw [hg]; exact hz.lt
  have hga : wa.heap.size ≤ g := by omega
  obtain ⟨R, hR⟩ : ∃ x, x = nxtT (b, 0) := ⟨_, rfl⟩
  obtain ⟨O, hO⟩ : ∃ x, x = nxtT (aftT (b, 0)) := ⟨_, rfl⟩
  obtain ⟨L, hL⟩ : ∃ x, x = nxtT (aftT (aftT (b, 0))) := ⟨_, rfl⟩
  obtain ⟨q1, hq1⟩ : ∃ x, x = aftT (b, 0) := ⟨_, rfl⟩
  obtain ⟨q2, hq2⟩ : ∃ x, x = aftT q1 := ⟨_, rfl⟩
  obtain ⟨q3, hq3⟩ : ∃ x, x = dc3 b := ⟨_, rfl⟩
  obtain ⟨n0, hn0⟩ : ∃ x, x = nxtN q3 := ⟨_, rfl⟩
  obtain ⟨q4, hq4⟩ : ∃ x, x = aftN q3 := ⟨_, rfl⟩
  have hq3' : q3 = aftT q2 := by rw [hq3, hq2, hq1]; rfl
  have HRdA : Sec (RdAt 84 (wa.alloc (.cells #[.string (bs b), .int .i64 0] 84)) g (b, 0) ∧ Gr wa (wa.alloc (.cells #[.string (bs b), .int .i64 0] 84))) := sec ⟨⟨by rw [hg]; exact Blk.new _ _ _, by simp only; omega, by simp⟩, (Gr.refl _).alloc _⟩
  have HT1 : Sec (∀ W, RdAt 84 W g (b, 0) → Calls Tryd.prog 58 #[.pointer (some ⟨g, 0, none⟩)] W fun e w' => e = .returned (.string (bs R)) ∧ RdAt 84 w' g q1 ∧ W.grownBy w' (some g)) := sec (fun W h => by rw [hR, hq1]; exact cuText g (b, 0) W h)
  have HT2 : Sec (∀ W, RdAt 84 W g q1 → Calls Tryd.prog 58 #[.pointer (some ⟨g, 0, none⟩)] W fun e w' => e = .returned (.string (bs O)) ∧ RdAt 84 w' g q2 ∧ W.grownBy w' (some g)) := sec (fun W h => by rw [hO, ← hq1, hq2]; exact cuText g q1 W h)
  have HT3 : Sec (∀ W, RdAt 84 W g q2 → Calls Tryd.prog 58 #[.pointer (some ⟨g, 0, none⟩)] W fun e w' => e = .returned (.string (bs L)) ∧ RdAt 84 w' g q3 ∧ W.grownBy w' (some g)) := sec (fun W h => by rw [hL, ← hq1, ← hq2, hq3']; exact cuText g q2 W h)
  have HNu : Sec (∀ q W, RdAt 84 W g q → Calls Tryd.prog 59 #[.pointer (some ⟨g, 0, none⟩)] W fun e w' => e = .returned (.int .i64 (nxtN q : Int)) ∧ RdAt 84 w' g (aftN q) ∧ W.grownBy w' (some g)) := sec (fun q W h => cuNumber g q W h)
  have HBy : Sec (∀ q W, RdAt 84 W g q → Calls Tryd.prog 60 #[.pointer (some ⟨g, 0, none⟩), .int .i64 32] W fun e w' => e = .returned (.string (bs (nxtB 32 q))) ∧ RdAt 84 w' g (aftB 32 q) ∧ W.grownBy w' (some g)) := sec (fun q W h => cuTake g q 32 W h (by omega))
  have hq0l : q4.1.length ≤ b.length := by
    have h1 := aftN_le q3
    have h2 := dc3_le b
    rw [← hq3] at h2
    rw [hq4]; omega
  have hn0l : n0 < 4611686018427387904 := by rw [hn0]; exact nxtN_lt q3
  have HST := sec (DcAt.start (n0 := n0) hq0l)
  have hRl : R.length ≤ 1099511627776 := by have := nxtT_le (b, 0); simp only at this; rw [hR]; omega
  have hOl : O.length ≤ 1099511627776 := by have := nxtT_le (aftT (b, 0)); have := aftT_le (b, 0); simp only at this; rw [hO]; omega
  have hLl : L.length ≤ 1099511627776 := by have := nxtT_le (aftT (aftT (b, 0))); have := aftT_le (aftT (b, 0)); have := aftT_le (b, 0); simp only at this; rw [hL]; omega
  have HRES : Sec (∀ (q : St) (F : List Int) (G : List (List UInt8)), dcL n0 q4 = (F, G, q) → dcR b = if q.2 = 0 ∧ q.1.length = 0 then (if stE ⟨R, O, L, F, G⟩ = 0 then (⟨R, O, L, F, G⟩, 0) else (stpZ, stE ⟨R, O, L, F, G⟩)) else (stpZ, 2)) := sec (fun q F G h => by
    have h' : dcLs b = (F, G, q) := by rw [← h, hn0, hq4, hq3]; rfl
    unfold dcR dcS
    rw [h', hR, hO, hL])
  have HGo : Sec (∀ (F : List Int) (G : List (List UInt8)) A c B d W, F.length ≤ 1099511627776 → G.length ≤ 1099511627776 → (∀ x ∈ G, x.length ≤ 32) → StR W ⟨R, O, L, F, G⟩ A c B d → Calls Tryd.prog 26 #[.agg (stepA ⟨R, O, L, F, G⟩ A c B d)] W fun e w' => e = .returned (.int .i64 (stE ⟨R, O, L, F, G⟩)) ∧ Gr W w') := sec (fun F G A c B d W h1 h2 h3 hr => rstGood_any _ A c B d W hr ⟨hRl, hOl, hLl, h1, h2, fun x hx => Nat.le_trans (h3 x hx) (by omega)⟩)
  have HN3 : Sec (∀ W, RdAt 84 W g q3 → Calls Tryd.prog 59 #[.pointer (some ⟨g, 0, none⟩)] W fun e w' => e = .returned (.int .i64 (n0 : Int)) ∧ RdAt 84 w' g q4 ∧ W.grownBy w' (some g)) := sec (fun W h => by rw [hn0, hq4]; exact cuNumber g q3 W h)
  have HB := sec hb
  have HZ := sec hz
  obtain ⟨V, hV⟩ : ∃ V, V = dcR b := ⟨_, rfl⟩
  rw [← hV] at HRES ⊢
  clear hV hR hO hL hq1 hq2 hq3 hq3' hn0 hq4 hq0l hRl hOl hLl hz
  unfold stepA stpZ at hwa
  simp only [List.length_nil] at hwa
  go_enter Tryd.func29, Tryd.ntmps29
  go_upto_region 1 with fail
  rw [← hwa, ← hp]
  clear hwa hp
  obtain ⟨d1, g1⟩ := HRdA.out
  obtain ⟨w1, hw1⟩ : ∃ y, y = wa.alloc (.cells #[.string (bs b), .int .i64 0] 84) := ⟨_, rfl⟩
  rw [← hw1] at d1 g1
  go_upto_region 2 with fail
  rw [← hw1, ← hg]
  clear hw1 hg HRdA
  go_upto_region 3 with (first
    | (go_at_call 58; refine Calls.mono (HT1.out _ d1) ?_; rintro e w2 ⟨rfl, d2, g2⟩; have G2 : Gr wa w2 := Gr.only g1 g2 hga)
    | (go_at_call 58; refine Calls.mono (HT2.out _ d2) ?_; rintro e w3 ⟨rfl, d3, g3⟩; have G3 : Gr wa w3 := Gr.only G2 g3 hga)
    | (go_at_call 58; refine Calls.mono (HT3.out _ d3) ?_; rintro e w4 ⟨rfl, d4, g4⟩; have G4 : Gr wa w4 := Gr.only G3 g4 hga))
  obtain ⟨k, hk⟩ : ∃ k, k = w4.heap.size := ⟨_, rfl⟩
  clear d1 d2 d3 g2 g3 G2 G3
  have HCELL : Sec (wa.heap.size ≤ k ∧ g < k) := sec ⟨by rw [hk]; exact G4.size, by rw [hk]; exact d4.blk.lt⟩
  have HT0 : Sec (Tw wa k (k + 1) R O L 0 [] [] (w4.alloc (.cells #[.string (bs R), .string (bs O), .string (bs L), .slice none 0 0, .slice none 0 0] 46))) := sec (Tw.new (by rw [hk]; exact Blk.new _ _ _) (G4.alloc _) (by omega) HCELL.out.1)
  have HD0 := sec (d4.gr ((Gr.refl w4).alloc (.cells #[.string (bs R), .string (bs O), .string (bs L), .slice none 0 0, .slice none 0 0] 46)))
  rw [← hk]
  obtain ⟨wb, hwb⟩ : ∃ y, y = w4.alloc (.cells #[.string (bs R), .string (bs O), .string (bs L), .slice none 0 0, .slice none 0 0] 46) := ⟨_, rfl⟩
  rw [← hwb] at HT0 HD0 ⊢
  clear hk hwb d4 g4 G4
  have HC : Sec (∀ A c N B d M X Y N' M' F G W, Md wa k (k + 1) (TwA R O L A c N B d M) X Y N' M' F G W → W.cell? ⟨k, 3, none⟩ = some (.slice A N c) ∧ W.cell? ⟨k, 4, none⟩ = some (.slice B M d) ∧ W.frozen? ⟨k, 3, none⟩ = false ∧ W.frozen? ⟨k, 4, none⟩ = false) := sec (fun A c N B d M X Y N' M' F G W h => ⟨h.blk.cell 3, h.blk.cell 4, h.blk.frozen 3, h.blk.frozen 4⟩)
  have HDC : Sec (∀ q W, RdAt 84 W g q → W.cell? ⟨g, 0, none⟩ = some (.string (bs q.1)) ∧ W.cell? ⟨g, 1, none⟩ = some (.int .i64 (q.2 : Int))) := sec (fun q W h => ⟨h.blk.cell 0, h.blk.cell 1⟩)
  have hkg : k ≠ g := by have := HCELL.out.2; omega
  have hgk : g ≠ k := by omega
  go_upto_block 0 with (first
    | (go_at_call 59; refine Calls.mono (HN3.out _ HD0.out) ?_; rintro e w5 ⟨rfl, d5, g5⟩; have T5 := sec (HT0.out.only HD0.out.blk (by decide) (by decide) hkg hga g5); have D5 := sec d5; clear d5 g5))
  clear HT1 HT2 HT3 HN3  HT0 HD0
  go_cut [] from 21 to 46 (fun wx => Sec (∃ q F G N, dcL n0 q4 = (F, G, q) ∧ F.length ≤ 1099511627776 ∧ G.length ≤ 1099511627776 ∧ (∀ x ∈ G, x.length ≤ 32) ∧ RdAt 84 wx g q ∧ Tw wa k (k + 1) R O L N F G wx))
  case first =>
    go_wp2_with fail
    go_loopg [7] n0 (fun fuel iv wr => ∃ i : Nat, iv = .int .i64 (i : Int) ∧ n0 ≤ i + fuel ∧ i ≤ n0 ∧ Sec (∃ q F G, DcAt b.length n0 q4 i (n0 - i) q F G ∧ RdAt 84 wr g q ∧ Tw wa k (k + 1) R O L i F G wr))
    case atStart => exact ⟨0, rfl, by omega, by omega, sec ⟨q4, [], [], HST.out, D5.out, T5.out⟩⟩
    case round =>
      clear T5 D5
      obtain ⟨i, rfl, hfu, hnn, HF⟩ := hrel
      obtain ⟨q, F, G, hDc, hD, A1, c1, B1, d1, M0⟩ := HF.out
      have HDc := sec hDc
      have hfit := hDc.fits HB.out
      have hil : i ≤ b.length + 1 := hDc.le
      have HFI := sec hfit
      have HBB := sec (show i ≤ 1099511627776 by have := HB.out; omega)
      obtain ⟨y0, y1⟩ := HDC.out _ _ hD
      have HD := sec hD
      have HM := sec M0
      clear hDc HF hfit hil
      by_cases hn : i < n0
      · have hni : (i : Int) < (n0 : Int) := by omega
        by_cases hq : q.2 = 0
        · have hqi : ((q.2 : Int) == 0) = true := by rw [beq_iff_eq]; omega
          have HNX : Sec (DcAt b.length n0 q4 (i + 1) (n0 - (i + 1)) (aftB 32 (aftN q)) (F ++ [(nxtN q : Int)]) (G ++ [nxtB 32 (aftN q)])) := sec (by have h := HDc.out; rw [show n0 - i = (n0 - (i + 1)) + 1 by omega] at h; exact h.next hq)
          obtain ⟨x, hx⟩ : ∃ x, x = nxtN q := ⟨_, rfl⟩
          have HN1 : Sec (∀ W, RdAt 84 W g q → Calls Tryd.prog 59 #[.pointer (some ⟨g, 0, none⟩)] W fun e w' => e = .returned (.int .i64 (x : Int)) ∧ RdAt 84 w' g (aftN q) ∧ W.grownBy w' (some g)) := sec (by rw [hx]; exact HNu.out q)
          obtain ⟨sv, hsv⟩ : ∃ x, x = nxtB 32 (aftN q) := ⟨_, rfl⟩
          have HB1 : Sec (∀ W, RdAt 84 W g (aftN q) → Calls Tryd.prog 60 #[.pointer (some ⟨g, 0, none⟩), .int .i64 32] W fun e w' => e = .returned (.string (bs sv)) ∧ RdAt 84 w' g (aftB 32 (aftN q)) ∧ W.grownBy w' (some g)) := sec (by rw [hsv]; exact HBy.out (aftN q))
          rw [← hx, ← hsv] at HNX
          have hb8 : (i + 1) * 8 ≤ 140737488355328 := by have := HBB.out; omega
          have hb16 : (i + 1) * 16 ≤ 140737488355328 := by have := HBB.out; omega
          have hbm : i + 1 ≤ maxLen := by have := HBB.out; unfold maxLen; omega
          clear hx hsv hq
          clear hD M0
          go_upto_region 7 with fail
          obtain ⟨x0, x1, x2, x3⟩ := HC.out _ _ _ _ _ _ _ _ _ _ _ _ _ HM.out
          go_cut [] from 33 to 39 (fun wx => Sec (∃ A c, Md wa k (k + 1) (TwA R O L A c (i + 1) B1 d1 i) (.slice A (i + 1) c) (.slice B1 i d1) (i + 1) i (F ++ [(x : Int)]) G wx) ∧ Sec (RdAt 84 wx g (aftN q)))
          case first =>
            go_region_law (first
              | (go_simp; go_at_call 59; (refine Calls.mono (HN1.out _ (RdAt.gr HD.out ?gx)) ?_); (case gx => first | exact Gr.refl _ | exact (Gr.refl _).drew); rintro e w1 ⟨rfl, D1, g1⟩; have M1 : Md wa k (k + 1) (TwA R O L A1 c1 i B1 d1 i) (.slice A1 i c1) (.slice B1 i d1) i i F G w1 := (by first | exact HM.out.rd (Gr.refl _) HD.out (by decide) (by decide) hkg hga g1 | exact HM.out.rd (Gr.refl _).drew HD.out (by decide) (by decide) hkg hga g1); obtain ⟨a0, a1, a2, a3⟩ := HC.out _ _ _ _ _ _ _ _ _ _ _ _ _ M1; obtain ⟨c0, c1', c2', c3⟩ := HC.out _ _ _ _ _ _ _ _ _ _ _ _ _ (M1.al (.cells #[.int .i64 (x : Int)] 3)))
              | (refine step_append_row (B := k + 1) (A0 := A1) (n0 := i) (cap0 := c1) (xs := F.map iV) (A := some ⟨w1.heap.size, 0, none⟩) (n := 1) (c := 1) (vs := [.int .i64 (x : Int)]) E.ints rfl (.tmp 34) (.tmp 37) rfl ?hd ?ho ?hx (row1 (T := 3) ?hr) (fun h => by cases h) (fun u hu => by simp at hu; subst hu; rfl) hb8 hbm ?hB ?_; (case hd => first | (simp [Act.eval]; done) | (simp [Act.eval, Act.put]; done)); (case hx => first | (simp [Act.eval]; done) | (simp [Act.eval, Act.put]; done)); (case ho => refine Md.own1 (w0 := wa) (q := k) (K := k + 1) (cs := TwA R O L A1 c1 i B1 d1 i) (X := .slice A1 i c1) (Y := .slice B1 i d1) (N := i) (M := i) (F := F) (G := G) ?_; (repeat (first | with_reducible exact M1 | with_reducible refine Md.drew ?_ | with_reducible refine Md.al ?_ _)); done); (case hr => (repeat (first | (with_reducible refine BlkAt ?_; simp; done) | with_reducible refine Blk.drew ?_ | with_reducible refine Blk.alloc ?_ _)); done); (case hB => refine Md.size (w0 := wa) (q := k) (K := k + 1) (cs := TwA R O L A1 c1 i B1 d1 i) (X := .slice A1 i c1) (Y := .slice B1 i d1) (N := i) (M := i) (F := F) (G := G) ?_ (Nat.le_refl _); (repeat (first | with_reducible exact M1 | with_reducible refine Md.drew ?_ | with_reducible refine Md.al ?_ _)); done); intro Aa ka wA oA hA; rw [iV_add] at oA; have MA : Md wa k (k + 1) (TwA R O L A1 c1 i B1 d1 i) (.slice Aa (i + 1) ka) (.slice B1 i d1) (i + 1) i (F ++ [(x : Int)]) G wA := (by refine Md.app1 (w0 := wa) (q := k) (K := k + 1) (cs := TwA R O L A1 c1 i B1 d1 i) (X := .slice A1 i c1) (Y := .slice B1 i d1) (N := i) (M := i) (F := F) (G := G) ?_ oA hA; repeat (first | with_reducible exact M1 | with_reducible refine Md.drew ?_ | with_reducible refine Md.al ?_ _)); have DA : RdAt 84 wA g (aftN q) := (by refine Md.rdApp1 (w0 := wa) (q := k) (K := k + 1) (cs := TwA R O L A1 c1 i B1 d1 i) (X := .slice A1 i c1) (Y := .slice B1 i d1) (N := i) (M := i) (F := F) (G := G) ?hm (RdAt.gr D1 ?hg) (by decide) hA; (case hm => (repeat (first | with_reducible exact M1 | with_reducible refine Md.drew ?_ | with_reducible refine Md.al ?_ _)); done); (case hg => (first | exact (Gr.refl _).alloc _ | exact ((Gr.refl _).alloc _).drew | exact ((Gr.refl _).drew.alloc _)))); obtain ⟨b0, b1, b2, b3⟩ := HC.out _ _ _ _ _ _ _ _ _ _ _ _ _ MA))
            all_goals
              go_wp2_with fail
              go_meet
              exact ⟨sec ⟨Aa, ka, MA.st 3 _⟩, sec (DA.far hgk _)⟩
          case rest =>
            obtain ⟨HM2', HD2⟩ := hcut
            obtain ⟨A2, c2, hM2⟩ := HM2'.out
            have HM2 := sec hM2
            clear HM2' hM2 HM HD y0 y1 x0 x1 x2 x3
            obtain ⟨x0, x1, x2, x3⟩ := HC.out _ _ _ _ _ _ _ _ _ _ _ _ _ HM2.out
            go_upto_region 8 with fail
            go_region_law (first
              | (go_simp; go_at_call 60; (refine Calls.mono (HB1.out _ (RdAt.gr HD2.out ?gx)) ?_); (case gx => first | exact Gr.refl _ | exact (Gr.refl _).drew); rintro e w1 ⟨rfl, D1, g1⟩; have M1 : Md wa k (k + 1) (TwA R O L A2 c2 (i + 1) B1 d1 i) (.slice A2 (i + 1) c2) (.slice B1 i d1) (i + 1) i (F ++ [(x : Int)]) G w1 := (by first | exact HM2.out.rd (Gr.refl _) HD2.out (by decide) (by decide) hkg hga g1 | exact HM2.out.rd (Gr.refl _).drew HD2.out (by decide) (by decide) hkg hga g1); obtain ⟨a0, a1, a2, a3⟩ := HC.out _ _ _ _ _ _ _ _ _ _ _ _ _ M1; obtain ⟨c0, c1', c2', c3⟩ := HC.out _ _ _ _ _ _ _ _ _ _ _ _ _ (M1.al (.cells #[.string (bs sv)] 9)))
              | (refine step_append_row (B := k + 1) (A0 := B1) (n0 := i) (cap0 := d1) (xs := G.map strV) (A := some ⟨w1.heap.size, 0, none⟩) (n := 1) (c := 1) (vs := [.string (bs sv)]) E.str rfl (.tmp 41) (.tmp 44) rfl ?hd ?ho ?hx (row1 (T := 9) ?hr) (fun h => by cases h) (fun u hu => by simp at hu; subst hu; rfl) hb16 hbm ?hB ?_; (case hd => first | (simp [Act.eval]; done) | (simp [Act.eval, Act.put]; done)); (case hx => first | (simp [Act.eval]; done) | (simp [Act.eval, Act.put]; done)); (case ho => refine Md.own2 (w0 := wa) (q := k) (K := k + 1) (cs := TwA R O L A2 c2 (i + 1) B1 d1 i) (X := .slice A2 (i + 1) c2) (Y := .slice B1 i d1) (N := i + 1) (M := i) (F := F ++ [(x : Int)]) (G := G) ?_; (repeat (first | with_reducible exact M1 | with_reducible refine Md.drew ?_ | with_reducible refine Md.al ?_ _)); done); (case hr => (repeat (first | (with_reducible refine BlkAt ?_; simp; done) | with_reducible refine Blk.drew ?_ | with_reducible refine Blk.alloc ?_ _)); done); (case hB => refine Md.size (w0 := wa) (q := k) (K := k + 1) (cs := TwA R O L A2 c2 (i + 1) B1 d1 i) (X := .slice A2 (i + 1) c2) (Y := .slice B1 i d1) (N := i + 1) (M := i) (F := F ++ [(x : Int)]) (G := G) ?_ (Nat.le_refl _); (repeat (first | with_reducible exact M1 | with_reducible refine Md.drew ?_ | with_reducible refine Md.al ?_ _)); done); intro Bb kb wA oA hA; rw [sV_add] at oA; have MA : Md wa k (k + 1) (TwA R O L A2 c2 (i + 1) B1 d1 i) (.slice A2 (i + 1) c2) (.slice Bb (i + 1) kb) (i + 1) (i + 1) (F ++ [(x : Int)]) (G ++ [sv]) wA := (by refine Md.app2 (w0 := wa) (q := k) (K := k + 1) (cs := TwA R O L A2 c2 (i + 1) B1 d1 i) (X := .slice A2 (i + 1) c2) (Y := .slice B1 i d1) (N := i + 1) (M := i) (F := F ++ [(x : Int)]) (G := G) ?_ oA hA; repeat (first | with_reducible exact M1 | with_reducible refine Md.drew ?_ | with_reducible refine Md.al ?_ _)); have DA : RdAt 84 wA g (aftB 32 (aftN q)) := (by refine Md.rdApp2 (w0 := wa) (q := k) (K := k + 1) (cs := TwA R O L A2 c2 (i + 1) B1 d1 i) (X := .slice A2 (i + 1) c2) (Y := .slice B1 i d1) (N := i + 1) (M := i) (F := F ++ [(x : Int)]) (G := G) ?hm (RdAt.gr D1 ?hg) (by decide) hA; (case hm => (repeat (first | with_reducible exact M1 | with_reducible refine Md.drew ?_ | with_reducible refine Md.al ?_ _)); done); (case hg => (first | exact (Gr.refl _).alloc _ | exact ((Gr.refl _).alloc _).drew | exact ((Gr.refl _).drew.alloc _)))); obtain ⟨b0, b1, b2, b3⟩ := HC.out _ _ _ _ _ _ _ _ _ _ _ _ _ MA))
            all_goals
              go_wp2_with fail
              go_roundg (gk - 1)
              case rel => exact ⟨i + 1, by go_num, by omega, by omega, sec ⟨aftB 32 (aftN q), F ++ [(x : Int)], G ++ [sv], HNX.out, DA.far hgk _, _, _, _, _, MA.st 4 _⟩⟩
              case measure => omega
        · have hqi : ((q.2 : Int) == 0) = false := by rw [beq_eq_false_iff_ne]; omega
          have HQ0 := sec hq
          clear hq
          go_wp2_with fail
          go_meet
          exact sec ⟨q, F, G, i, HDc.out.bad HQ0.out, HFI.out.1, HFI.out.2, HDc.out.each, HD.out, _, _, _, _, HM.out⟩
      · have hn0 : decide (i < n0) = false := decide_eq_false hn
        have HDN : Sec (dcL n0 q4 = (F, G, q)) := sec (by have h := HDc.out; rw [show n0 - i = 0 by omega] at h; exact h.done)
        go_wp2_with fail
        go_meet
        exact sec ⟨q, F, G, i, HDN.out, HFI.out.1, HFI.out.2, HDc.out.each, HD.out, _, _, _, _, HM.out⟩
  case rest =>
    obtain ⟨q, F, G, N, h1, h2, h3, h4, hD, A1, c1, B1, d1, M0⟩ := hcut.out
    have HR := HRES.out q F G h1
    obtain ⟨S0, e1⟩ := M0.str
    have B0 := M0.blk
    rw [e1] at B0
    obtain ⟨y0, y1⟩ := HDC.out _ _ hD
    have GX : Gr wa wc := M0.gr
    by_cases hq : q.2 = 0
    · have hqi : (q.2 : Int) = 0 := by omega
      by_cases hl : q.1.length = 0
      · rw [if_pos ⟨hq, hl⟩] at HR
        have GOx : Sec (Calls Tryd.prog 26 #[.agg (stepA ⟨R, O, L, F, G⟩ A1 c1 B1 d1)] wc fun e w' => e = .returned (.int .i64 (stE ⟨R, O, L, F, G⟩)) ∧ Gr wc w') := sec (HGo.out F G A1 c1 B1 d1 _ h2 h3 h4 S0)
        obtain ⟨E, hE⟩ : ∃ E, E = stE ⟨R, O, L, F, G⟩ := ⟨_, rfl⟩
        rw [← hE] at HR GOx
        have HMM := sec M0
        clear HGo h1 h2 h3 h4 S0 e1 hE M0
        by_cases hE0 : E = 0
        · subst hE0
          rw [if_pos rfl] at HR
          have HR := sec HR
          have hlz : q.1.isEmpty = true := List.isEmpty_iff_length_eq_zero.2 hl
          go_wp2_with (first
            | (go_at_call 26; refine Calls.mono GOx.out ?_; rintro e w8 ⟨rfl, g8⟩; have B8 := B0.gr g8; have G8 := GX.trans g8)
            | (refine wpList_load_blk rfl 46 (.tmp 5) rfl (g := k) rfl B0 aggStep ?_)
            | (refine wpList_load_blk rfl 46 (.tmp 5) rfl (g := k) rfl B8 aggStep ?_)
            | (refine wpList_store_blk rfl 46 (.tmp 2) (.tmp 66) rfl (g := p) (cs' := stepA ⟨R, O, L, F, G⟩ A1 c1 B1 d1) rfl rfl (HZ.out.gr G8) aggStep rfl (stepA_one _ _ _ _ _) ?_; intro w9 h9 hg9))
          refine bodyPost_ret (results_blk_tmp rfl _ rfl h9 aggStep) rfl ?_
          rw [HR.out]
          obtain ⟨s1, s2⟩ := str_own (r := R) (o := O) (n := L) (own_only (HMM.out.gr' g8).own1 (HZ.out.gr G8) (by decide) hg9) (own_only (HMM.out.gr' g8).own2 (HZ.out.gr G8) (by decide) hg9)
          exact ⟨A1, c1, B1, d1, rfl, s1, Gr.only (hg0.trans G8) hg9 hwp⟩
        · rw [if_neg hE0] at HR
          have HR := sec HR
          have m0 : (E != 0) = true := by simpa using hE0
          clear hE0
          have hlz : q.1.isEmpty = true := List.isEmpty_iff_length_eq_zero.2 hl
          go_wp2_with (first
            | (go_at_call 26; refine Calls.mono GOx.out ?_; rintro e w8 ⟨rfl, g8⟩; have B8 := B0.gr g8; have G8 := GX.trans g8)
            | (refine wpList_load_blk rfl 46 (.tmp 5) rfl (g := k) rfl B0 aggStep ?_)
            | (refine wpList_store_blk rfl 46 (.tmp 2) _ rfl (g := p) (cs' := stepA stpZ none 0 none 0) rfl rfl (HZ.out.gr G8) aggStep rfl (stepA_one _ _ _ _ _) ?_; intro w9 h9 hg9))
          refine bodyPost_ret (results_blk_tmp rfl _ rfl h9 aggStep) rfl ?_
          rw [HR.out]
          exact ⟨none, 0, none, 0, rfl, StR.zero _, Gr.only (hg0.trans G8) hg9 hwp⟩
      · have HR : Sec (V = (stpZ, 2)) := sec (by rw [HR, if_neg (fun h => hl h.2)])
        clear h1 h2 h3 h4 S0 e1 M0 B0
        have hlz : q.1.isEmpty = false := by cases h : q.1 with | nil => exact absurd (by rw [h]; rfl) hl | cons => rfl
        go_wp2_with (first
          | (refine wpList_store_blk rfl 46 (.tmp 2) _ rfl (g := p) (cs' := stepA stpZ none 0 none 0) rfl rfl (HZ.out.gr GX) aggStep rfl (stepA_one _ _ _ _ _) ?_; intro w9 h9 hg9))
        refine bodyPost_ret (results_blk_tmp rfl _ rfl h9 aggStep) rfl ?_
        rw [HR.out]
        exact ⟨none, 0, none, 0, rfl, StR.zero _, Gr.only (hg0.trans GX) hg9 hwp⟩
    · have HR : Sec (V = (stpZ, 2)) := sec (by rw [HR, if_neg (fun h => hq h.1)])
      clear h1 h2 h3 h4 S0 e1 M0 B0
      have hqi : ¬ (q.2 : Int) = 0 := by omega
      go_wp2_with (first
        | (refine wpList_store_blk rfl 46 (.tmp 2) _ rfl (g := p) (cs' := stepA stpZ none 0 none 0) rfl rfl (HZ.out.gr GX) aggStep rfl (stepA_one _ _ _ _ _) ?_; intro w9 h9 hg9))
      refine bodyPost_ret (results_blk_tmp rfl _ rfl h9 aggStep) rfl ?_
      rw [HR.out]
      exact ⟨none, 0, none, 0, rfl, StR.zero _, Gr.only (hg0.trans GX) hg9 hwp⟩
end Go.Proofs.YtkgmimmneeppgaaDoor

namespace Go.Proofs.YtkgmimmneeppgaaDoor
set_option maxRecDepth 100000
open Go.RowKit Go.ChangeShapes Go.WideShapes
set_option linter.unusedVariables false
def n32 : List UInt8 := [48, 49, 50, 51, 52, 53, 54, 55, 56, 57, 97, 98, 99, 100, 101, 102, 48, 49, 50, 51, 52, 53, 54, 55, 56, 57, 97, 98, 99, 100, 101, 102]
def st0 : Stp := ⟨[97], [], n32, [], []⟩
def st1 (x : List UInt8) : Stp := ⟨[97], [], n32, [1], [x]⟩
theorem st0_sz : StSz 1099511627776 st0 := ⟨by decide, by decide, by decide, by decide, by decide, fun x h => by cases h⟩
theorem seal32 (key b : List UInt8) : (seal' key b).length = 32 := rfl
theorem st1_sz (x : List UInt8) (h : x.length = 32) : StSz 1099511627776 (st1 x) := ⟨st0_sz.r, st0_sz.o, st0_sz.n, by show (1 : Nat) ≤ _; omega, by show (1 : Nat) ≤ _; omega, fun y hy => by
  have : y = x := by simpa [st1] using hy
  subst this
  omega⟩
theorem st0_b : stB st0 = true := by decide
theorem st0_e : stE st0 = 0 := by decide
theorem st1_e (x : List UInt8) (h : x.length = 32) : stE (st1 x) = 0 := by
  have hb : stB (st1 x) = true := st0_b
  unfold stE
  rw [if_pos hb, if_neg (by show ¬ (8 < 1 ∨ ¬ 1 = 1); omega)]
  show stF (-1) [1] [x] = 0
  rw [stF_cons, if_neg (by omega), if_pos h]
  rfl
theorem st0_body : (bodyR 0 st0).2 = 0 := by
  unfold bodyR
  rw [if_neg (by omega), if_neg (by decide)]
theorem st1_body (x : List UInt8) : bodyR 0 (st1 x) = bodyR 0 st0 := rfl
theorem st0_sg : stSg st0 0 1 [107] = (st1 (seal' [107] (bodyR 0 st0).1), 0) := by
  unfold stSg
  rw [if_pos st0_e, if_pos st0_body, if_neg (by omega), if_neg (by decide)]
  rfl
theorem st1_rg (b x : List UInt8) (hx : x = seal' [107] b) : rgB [[], [107]] b 1 x = true := by
  have e : ([[], [107]] : List (List UInt8)).getD (1 : Int).toNat [] = [107] := rfl
  unfold rgB
  rw [e, hx, beq_self_eq_true]
  rfl
theorem st1_ck (b x : List UInt8) (hl : x.length = 32) (hb : (bodyR 0 st0).1 = b) (hx : x = seal' [107] b) : stCk [[], [107]] 1 0 (st1 x) = 0 := by
  have h1 := st1_rg b x hx
  clear hx
  unfold stCk
  rw [if_pos (st1_e _ hl), st1_body, if_pos st0_body, hb, if_pos]
  have e : rgL [[], [107]] b (st1 x) = [rgB [[], [107]] b 1 x] := rfl
  rw [e, h1]
  exact ⟨rfl, by show (1 : Int) ≤ ((1 : Nat) : Int); omega⟩
theorem row2 {W : World} {g : Nat} {T : TypeId} {u v : Value} (h : Blk W g T #[u, v]) : Row W 1 (some ⟨g, 0, none⟩) 2 [u, v] := by
  refine ⟨by simp, fun _ => ⟨g, 0, rfl, fun i v hi => ?_⟩⟩
  have := h.cell i
  rw [Nat.zero_add, this]
  simpa using hi
theorem k2_len : ∀ y ∈ ([[], [107]] : List (List UInt8)), y.length ≤ 1099511627776 := by
  intro y hy
  simp only [List.mem_cons, List.not_mem_nil, or_false] at hy
  rcases hy with rfl | rfl <;> decide
set_option maxHeartbeats 4000000 in
theorem steps_any (w : World) (hT : TabK w) : Calls Tryd.prog 27 #[] w fun e w' => e = .returned (.bool true) ∧ Gr w w' := by
  obtain ⟨x, hx⟩ : ∃ x, x = seal' [107] (bodyR 0 st0).1 := ⟨_, rfl⟩
  have hl : x.length = 32 := by rw [hx]; exact seal32 _ _
  have hck := st1_ck (bodyR 0 st0).1 x hl rfl hx
  have HSg := sec (sign_any st0 0 1 [107] none 0 none 0 w ⟨Row.nil w 1 none, Row.nil w 1 none, fun _ => ⟨rfl, rfl⟩, fun _ => ⟨rfl, rfl⟩, Nat.le_refl _, Nat.le_refl _⟩ st0_sz (fun ad h => by cases h) (fun ad h => by cases h) hT (by decide))
  rw [st0_sg, ← hx] at HSg
  have HCk : Sec (∀ (W : World) (A0 : Option Addr) (m' c0 d0 : Nat) (A : Option Addr) (c : Nat) (B : Option Addr) (d : Nat), Gr w W → StrRow W A0 2 [[], [107]] → StR W (st1 x) A c B d → Calls Tryd.prog 33 #[.agg (keysA A0 2 c0 none 0 d0 1), .int .i64 0, .agg (stepA (st1 x) A c B d)] W fun e w' => e = .returned (.int .i64 0) ∧ Gr W w') := sec (fun W A0 m' c0 d0 A c B d g hK hR => by
    have := stCheck_any A0 2 c0 none 0 d0 1 [[], [107]] 0 (st1 x) A c B d W hK (by omega) k2_len hR (st1_sz x hl) (hT.gr g)
    rwa [hck] at this)
  clear hck hx hl hT
  unfold keysA at HCk
  unfold st0 at HSg
  have e1 : ∀ A c B d, stepA (st1 x) A c B d = #[.string (bs [97]), .string (bs []), .string (bs n32), .slice A 1 c, .slice B 1 d] := fun _ _ _ _ => rfl
  go_enter Tryd.func27, Tryd.ntmps27
  go_upto_region 2 with (first
    | (go_at_call 31; refine Calls.mono HSg.out ?_; rintro e w1 ⟨A1, c1, B1, d1, rfl, R1, g1⟩)
    | (refine wpList_store_blk rfl 46 (.tmp 1) (.tmp 6) rfl (g := w1.heap.size) (cs' := stepA (st1 x) A1 c1 B1 d1) rfl rfl (Blk.new w1 _ _) aggStep rfl (stepA_one _ _ _ _ _) ?_; intro w2 h2 hg2))
  have G2 : Gr w w2 := Gr.only (g1.alloc _) hg2 g1.size
  have R2 : StR w2 (st1 x) A1 c1 B1 d1 := R1.gr (Gr.only ((Gr.refl w1).alloc _) hg2 (Nat.le_refl _))
  obtain ⟨p, hp⟩ : ∃ p, p = w1.heap.size := ⟨_, rfl⟩
  rw [← hp] at h2
  rw [← hp]
  have HSK : Sec (∀ w', Gr w2 w' → w'.cell? ⟨p, 0, none⟩ = some (.string (bs [97])) ∧ w'.cell? ⟨p, 1, none⟩ = some (.string (bs [])) ∧ w'.cell? ⟨p, 2, none⟩ = some (.string (bs n32)) ∧ w'.cell? ⟨p, 3, none⟩ = some (.slice A1 1 c1) ∧ w'.cell? ⟨p, 4, none⟩ = some (.slice B1 1 d1) ∧ Gr w2 w') := sec (fun w' g => ⟨(h2.gr g).cell 0, (h2.gr g).cell 1, (h2.gr g).cell 2, (h2.gr g).cell 3, (h2.gr g).cell 4, g⟩)
  have HC : Sec (∀ (W : World) (A0 : Option Addr) (m' c0 d0 : Nat), Gr w2 W → StrRow W A0 2 [[], [107]] → Calls Tryd.prog 33 #[.agg #[.slice A0 2 c0, .slice none 0 d0, .int .i64 1], .int .i64 0, .agg #[.string (bs [97]), .string (bs []), .string (bs n32), .slice A1 1 c1, .slice B1 1 d1]] W fun e w' => e = .returned (.int .i64 0) ∧ Gr W w') := sec (fun W A0 m' c0 d0 g hK => HCk.out W A0 m' c0 d0 A1 c1 B1 d1 (G2.trans g) hK (R2.gr g))
  have HG2 := sec G2
  have HB := sec h2
  clear h2 hg2 R1 R2 g1 hp G2 HCk HSg e1
  have gd : Gr w2 w2 := Gr.refl _
  obtain ⟨x0, x1, x2, x3, x4, _⟩ := HSK.out _ gd
  have hlt : p < w2.heap.size := HB.out.lt
  go_wp2_with (first
      | (go_at_call 33; (refine Calls.mono (HC.out _ _ 0 _ _ (gd.alloc _) (row2 (Blk.new _ _ _))) ?_); rintro e w3 ⟨rfl, g3⟩; have G3 : Gr w2 w3 := Gr.trans (gd.alloc _) g3)
      | fail)
  go_ret
  exact ⟨rfl, HG2.out.trans G3⟩
end Go.Proofs.YtkgmimmneeppgaaDoor

namespace Go.Proofs.YtkgmimmneeppgaaDoor
set_option maxRecDepth 100000
open Go.RowKit
set_option linter.unusedVariables false
theorem dcR_sz (b : List UInt8) : StSz 1099511627776 (dcR b).1 := by
  have hz : StSz 1099511627776 stpZ := ⟨by simp [stpZ], by simp [stpZ], by simp [stpZ], by simp [stpZ], by simp [stpZ], by simp [stpZ]⟩
  unfold dcR
  split
  · split
    · rename_i h
      obtain ⟨_, h1, h2, h3, h4, h5, h6, _, _⟩ := stE_zero h
      exact ⟨by simp only; omega, by simp only; omega, by simp only; omega, by simp only; omega, by simp only; omega, fun x hx => by rw [h6 x hx]; omega⟩
    · exact hz
  · exact hz

set_option maxHeartbeats 8000000 in
theorem stepDecodes_walk (b : List UInt8) (W : World) (hb : b.length ≤ 1048576) (hT : TabK W) :
    Calls Tryd.prog 6 #[.string (bs b)] W fun e W' => e = .returned (.bool true) ∧ Gr W W' := by
  have HDe : Sec (∀ w', Calls Tryd.prog 28 #[.string (bs b)] w' fun e w'' => ∃ A c B d, e = .returned (.tuple #[.agg (stepA (dcR b).1 A c B d), .int .i64 (dcR b).2]) ∧ StR w'' (dcR b).1 A c B d ∧ Gr w' w'') := sec (fun w' => stDec_any b w' (by omega))
  have HRd : Sec (∀ w', Calls Tryd.prog 29 #[.string (bs b)] w' fun e w'' => ∃ A c B d, e = .returned (.tuple #[.agg (stepA (dcR b).1 A c B d), .int .i64 (dcR b).2]) ∧ StR w'' (dcR b).1 A c B d ∧ Gr w' w'') := sec (fun w' => rstDec_any b w' (by omega))
  have HSa : Sec (∀ w' A c B d A' c' B' d', StR w' (dcR b).1 A c B d → StR w' (dcR b).1 A' c' B' d' → Calls Tryd.prog 30 #[.agg (stepA (dcR b).1 A c B d), .agg (stepA (dcR b).1 A' c' B' d')] w' fun e w'' => e = .returned (.bool true) ∧ Gr w' w'') := sec (fun w' A c B d A' c' B' d' h h' => sameStep_any (dcR b).1 A c B d A' c' B' d' w' h h' (dcR_sz b))
  have HSt : Sec (∀ w', Gr W w' → Calls Tryd.prog 27 #[] w' fun e w'' => e = .returned (.bool true) ∧ Gr w' w'') := sec (fun w' g => steps_any w' (hT.gr g))
  obtain ⟨s, hs⟩ : ∃ x, x = (dcR b).1 := ⟨_, rfl⟩
  obtain ⟨E, hE⟩ : ∃ x, x = (dcR b).2 := ⟨_, rfl⟩
  rw [← hs, ← hE] at HDe HRd
  rw [← hs] at HSa
  obtain ⟨r, o, n, who, seals⟩ := s
  clear hs hE hT
  simp only [stepA] at HDe HRd HSa
  go_enter Tryd.func6, Tryd.ntmps6
  go_wp2_with (first
    | (go_at_call 28; (with_reducible refine Calls.mono (HDe.out _) ?_); rintro e w1 ⟨A1, c1, B1, d1, rfl, r1, g1⟩)
    | (go_at_call 29; (with_reducible refine Calls.mono (HRd.out _) ?_); rintro e w2 ⟨A2, c2, B2, d2, rfl, r2, g2⟩; have gg := ((Gr.refl w1).alloc (.cells #[.string (bs r), .string (bs o), .string (bs n), .slice A1 who.length c1, .slice B1 seals.length d1] 46)).trans g2; have b1 := (Blk.new w1 46 #[.string (bs r), .string (bs o), .string (bs n), .slice A1 who.length c1, .slice B1 seals.length d1]).gr g2; have G2 := (g1.trans gg).alloc (.cells #[.string (bs r), .string (bs o), .string (bs n), .slice A2 who.length c2, .slice B2 seals.length d2] 46); have s1 := (r1.gr gg).gr ((Gr.refl w2).alloc (.cells #[.string (bs r), .string (bs o), .string (bs n), .slice A2 who.length c2, .slice B2 seals.length d2] 46)); have s2 := r2.gr ((Gr.refl w2).alloc (.cells #[.string (bs r), .string (bs o), .string (bs n), .slice A2 who.length c2, .slice B2 seals.length d2] 46)); have x0 := b1.cell 0; have x1 := b1.cell 1; have x2 := b1.cell 2; have x3 := b1.cell 3; have x4 := b1.cell 4; have hlt := b1.lt)
    | (go_at_call 30; (with_reducible refine Calls.mono (HSa.out _ _ _ _ _ _ _ _ _ s1 s2) ?_); rintro e w3 ⟨rfl, g3⟩)
    | (go_at_call 27; (with_reducible refine Calls.mono (HSt.out _ (G2.trans g3)) ?_); rintro e w4 ⟨rfl, g4⟩))
  go_ret
  exact ⟨rfl, (G2.trans g3).trans g4⟩
end Go.Proofs.YtkgmimmneeppgaaDoor
