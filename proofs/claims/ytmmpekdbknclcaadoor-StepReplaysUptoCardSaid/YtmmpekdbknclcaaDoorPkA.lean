/-
  PkA: contracts and plain laws joined (23 texts). No conditions but those that each states.
-/
import Derived.Test.YtmmpekdbknclcaaDoorBase
import Derived.Test.YtmmpekdbknclcaaDoorNum
import Derived.Test.YtmmpekdbknclcaaDoorElems
import Derived.Lib.AppendStr
import Derived.Test.YtmmpekdbknclcaaDoorAgg
import Derived.Deep.RegionHeld3
import Derived.Test.YtmmpekdbknclcaaDoorRowsG
import Derived.RangeFuncNested
import Derived.RangeFuncBound
import Derived.RangeFuncCalls
import Derived.RangeFuncLeaves
import Derived.OwnWalkIn
import Derived.TacticsInMore
import Derived.LoopNIn
import Derived.LoopIn
import Derived.Lib.Bytealg
import Derived.Laws.RangeAny
import Derived.Lib.OthersKept
import Derived.Test.YtmmpekdbknclcaaDoorBRow
import Derived.Deep.AppendLies
import Derived.Laws.AppendOwnNone
import Derived.Lib.SliceRun
import Derived.StillTailTactics
import Derived.Deep.QuietTactic
import Derived.BigQuiet
namespace Go.Proofs.YtmmpekdbknclcaaDoor
set_option linter.unusedVariables false
/-- may a byte stand in a piece of a ref's name -/
def refC (n : Nat) : Bool := (decide (97 ≤ n) && decide (n ≤ 122)) || (decide (48 ≤ n) && decide (n ≤ 57)) || (n == 45) || (n == 95)
/-- byte by byte: how long the piece is at which it stands -/
def rnGo : Nat → List UInt8 → Bool
  | _, [] => true
  | p, c :: r => if c = 47 then (if p = 0 then false else rnGo 0 r) else if refC c.toNat then rnGo (p + 1) r else false
/-- P8.1 -/
def refB (s : List UInt8) : Bool := rnGo 0 (s ++ [47]) && decide (s.length ≤ 60)
/-- the reference's loop: what is left, at a piece so long -/
theorem rn_step (p : Nat) (c : UInt8) (r : List UInt8) : rnGo p (c :: r) = if c = 47 then (if p = 0 then false else rnGo 0 r) else if refC c.toNat then rnGo (p + 1) r else false := rfl
/-- a piece, a slash, and what is behind -/
theorem rn_piece : ∀ (x : List UInt8) (p : Nat) (t : List UInt8), (∀ c ∈ x, c ≠ 47) → rnGo p (x ++ 47 :: t) = ((decide (p ≠ 0) || !x.isEmpty) && x.all (fun c => refC c.toNat) && rnGo 0 t)
  | [], p, t, _ => by
    show rnGo p (47 :: t) = _
    rw [rn_step, if_pos rfl]
    by_cases h : p = 0
    · rw [if_pos h]; simp [h]
    · rw [if_neg h]; simp [h]
  | c :: r, p, t, h => by
    show rnGo p (c :: (r ++ 47 :: t)) = _
    rw [rn_step, if_neg (h c (List.mem_cons_self ..))]
    by_cases hc : refC c.toNat = true
    · rw [if_pos hc, rn_piece r (p + 1) t (fun x hx => h x (List.mem_cons_of_mem _ hx))]
      simp [hc]
    · rw [if_neg hc]
      simp [hc]
/-- the pieces that are still to come, taken one by one -/
theorem rn_here {x t : List UInt8} (h : ∀ c ∈ x, c ≠ 47) : rnGo 0 (x ++ 47 :: t) = (!x.isEmpty && x.all (fun c => refC c.toNat) && rnGo 0 t) := by
  rw [rn_piece x 0 t h]; simp
theorem any_notref (s : List UInt8) : (s.any fun c => !refC c.toNat) = !(s.all fun c => refC c.toNat) := by
  induction s with
  | nil => rfl
  | cons c r ih => simp [ih]
theorem rn_bad {x : List UInt8} (h : x.any (fun c => !refC c.toNat) = true) : x.all (fun c => refC c.toNat) = false := by
  rw [any_notref] at h; simpa using h
end Go.Proofs.YtmmpekdbknclcaaDoor

namespace Go.Proofs.YtmmpekdbknclcaaDoor
open Go.RowKit
theorem u8_or_nat' (m : Nat) : bits BinOp.or .u8 ((m : Int) % 256) 128 = ((m % 128 + 128 : Nat) : Int) := by
  rcases Nat.lt_or_ge (m % 256) 128 with h | h
  · rw [u8_or128_right _ (by omega) (by omega)]; omega
  · rw [u8_or _ _ (by omega) (by omega) (by omega) (by omega)]
    have e : ((m : Int) % 256).toNat = m % 256 := by omega
    rw [e]
    have : ∀ k : Fin 256, 128 ≤ k.val → (k.val ||| 128) = k.val := by decide +kernel
    have h2 := this ⟨m % 256, by omega⟩ h
    show (((m % 256) ||| 128 : Nat) : Int) = _
    simp only at h2
    rw [h2]; omega
theorem or128 (m : Nat) : bits BinOp.or .u8 ((m : Int) % 256) 128 = ((m % 128 + 128 : Nat) : Int) := by
  rw [u8_or_nat' m]
set_option maxHeartbeats 400000 in
theorem put_ok (b : List UInt8) (n : Int) (w : World) (h0 : 0 ≤ n) (h1 : n < 4611686018427387904) (hb : b.length ≤ 1152921504606846976) :
    Calls Tryd.prog 50 #[.string (bs b), .int .i64 n] w fun e w' => e = .returned (.tuple #[.string (bs (b ++ num n.toNat)), .int .i64 0]) ∧ Gr w w' := by
  go_enter Tryd.func50, Tryd.ntmps50
  go_wp2_with fail
  go_loopw [1, 6] (fun nv lv wr => ∃ (m : Nat) (l : List UInt8) (A : Option Addr) (cap : Nat), nv = .int .i64 m ∧ m < 4611686018427387904 ∧ Sec (num n.toNat = l ++ num m) ∧ lv = .slice A l.length cap ∧ wr.ownsRow w.heap.size 5 1 (.slice A l.length cap) l.length (l.map byteV) ∧ Gr w wr)
    (fun nv _ _ => (intOf nv).toNat)
  case atStart => exact ⟨n.toNat, [], none, 0, by rw [Int.toNat_of_nonneg h0], by omega, ⟨by simp⟩, rfl, World.ownsRow_nil _ _ _ _, Gr.refl _⟩
  case round =>
    obtain ⟨m, l, A, cap, rfl, hm, hl, rfl, hown, hbel⟩ := hrel
    have hl9 : l.length + 1 ≤ 9 := by
      have h9 := num_len9 (n := n.toNat) (by omega)
      rw [hl.out] at h9
      have := num_pos m
      simp at h9; omega
    by_cases hlt : 127 < (m : Int)
    · have hor := or128 m
      go_wp2_with (at_builtin; refine wpList_append_byte E.u8 rfl (.tmp 15) (.tmp 19) rfl rfl hown rfl (by omega) (by omega) (by omega) hbel ?_; intro g cap' w1 hown1 hbel1)
      go_round
      case rel =>
        have e : ((m : Int) % 128 + 128).toNat = m % 128 + 128 := by omega
        rw [e] at hown1
        refine ⟨m / 128, l ++ [UInt8.ofNat (m % 128 + 128)], some ⟨g, 0, none⟩, cap', by go_num, by omega, ?_, by simp, by rw [List.length_append]; exact hown1, hbel1⟩
        have := hl.out
        rw [num_big (n := m) (by omega)] at this
        exact ⟨by simpa using this⟩
      case measure => simp [intOf]; omega
    · have hmod : (m : Int) % 256 = m := by omega
      go_wp2_with (at_builtin; refine wpList_append_byte E.u8 rfl (.tmp 24) (.tmp 27) rfl rfl hown rfl (by omega) (by omega) (by omega) hbel ?_; intro g cap' w1 hown1 hbel1; have hcv := run_conv_own (src := 60) (dst := 9) Tryd.underlying60 Tryd.underlying5 Tryd.underlying9 hown1)
      go_ret2
      refine ⟨?_, hbel1⟩
      rw [hl.out, num_small (by omega)]
      simp
theorem put_err (b : List UInt8) (n : Int) (w : World) (h : n < 0 ∨ 4611686018427387904 ≤ n) :
    Calls Tryd.prog 50 #[.string (bs b), .int .i64 n] w fun e w' => e = .returned (.tuple #[.string (bs []), .int .i64 3]) ∧ w = w' := by
  rcases h with h | h
  all_goals
    go_enter Tryd.func50, Tryd.ntmps50
    go_wp2
    go_ret2
    exact ⟨rfl, rfl⟩
end Go.Proofs.YtmmpekdbknclcaaDoor

namespace Go.Proofs.YtmmpekdbknclcaaDoor
open Go.RowKit
set_option maxHeartbeats 400000 in
theorem number_out (n : Int) (w : World) (h : n < 0 ∨ 4611686018427387904 ≤ n) :
    Calls Tryd.prog 46 #[.int .i64 n] w fun e w' => e = .returned (.string (bs [])) ∧ Gr w w' := by
  rcases h with h | h
  all_goals
    go_enter Tryd.func46, Tryd.ntmps46
    go_wp2
    go_ret
    exact ⟨rfl, Gr.refl _⟩

set_option maxHeartbeats 1000000 in
theorem number_ok : ∀ (k : Nat) (n : Int) (w : World) (_ : n.toNat < k) (_ : 0 ≤ n) (_ : n < 4611686018427387904),
    Calls Tryd.prog 46 #[.int .i64 n] w fun e w' => e = .returned (.string (bs (num n.toNat))) ∧ Gr w w' := by
  intro k
  induction k with
  | zero => intro n w hk _ _; omega
  | succ k ih =>
    intro n w hk h0 h1
    have IH := sec ih
    clear ih
    have hcv := run_conv_one (src := 60) (dst := 9) Tryd.underlying60 Tryd.underlying5 Tryd.underlying9
    by_cases hlt : n < 128
    · go_enter Tryd.func46, Tryd.ntmps46
      have hk : n < 256 := by omega
      go_wp2
      go_ret
      refine ⟨?_, (Gr.refl _).alloc _⟩
      rw [num_small (by omega)]; rfl
    · have hl9 := num_len9 (n := n.toNat / 128) (by omega)
      have hd0 : (n / 128).toNat = n.toNat / 128 := by omega
      have HD := sec hd0
      clear hd0
      have a0 : 0 ≤ n / 128 := by omega
      have a1 : n / 128 < 4611686018427387904 := by omega
      have a2 : (n / 128).toNat < k := by omega
      have b0 : 0 ≤ n % 128 + 128 := by omega
      have b1 : n % 128 + 128 < 256 := by omega
      have e1 : n.tmod 128 = n % 128 := Int.tmod_eq_emod_of_nonneg h0
      have e2 : IntKind.i64.wrap (n % 128 + 128) = n % 128 + 128 := IntWalk.i64_in _ (by omega)
      have e3 : IntKind.u8.wrap (n % 128 + 128) = n % 128 + 128 := IntWalk.u8_in _ (by omega)
      have e4 : IntKind.i64.wrap (n.tdiv 128) = n / 128 := IntWalk.i64_quo _ _ (by omega)
      have hcat : ¬ 9223372036854775807 < 1 + (num (n.toNat / 128)).length := by omega
      have hfin : num n.toNat = UInt8.ofNat (n % 128 + 128).toNat :: num (n.toNat / 128) := by
        rw [num_big (n := n.toNat) (by omega)]; congr 2; omega
      have HF := sec hfin
      clear hfin
      go_enter Tryd.func46, Tryd.ntmps46
      go_wp2
      go_region_with (go_at_call 46; refine (IH.out _ _ a2 a0 a1).mono ?_; rintro e w1 ⟨rfl, hb1⟩; rw [HD.out]; have hc1 := hb1.cells)
      all_goals
        go_wp2
        go_ret
        refine ⟨by rw [HF.out]; rfl, ?_⟩
      all_goals repeat (first | exact Gr.refl _ | assumption | refine Gr.drew ?_ | refine Gr.alloc ?_ _ | refine Gr.trans ?_ (by assumption))
end Go.Proofs.YtmmpekdbknclcaaDoor

namespace Go.Proofs.YtmmpekdbknclcaaDoor
open Go.RowKit
/-- P2.1: a number's bytes; none where it has none -/
def numS (n : Int) : List UInt8 := if 0 ≤ n ∧ n < 4611686018427387904 then num n.toNat else []
theorem numS_in {n : Int} (h0 : 0 ≤ n) (h1 : n < 4611686018427387904) : numS n = num n.toNat := if_pos ⟨h0, h1⟩
theorem numS_nat {n : Nat} (h1 : n < 4611686018427387904) : numS n = num n := by rw [numS_in (by omega) (by omega)]; simp
theorem numS_out {n : Int} (h : n < 0 ∨ 4611686018427387904 ≤ n) : numS n = [] := if_neg (by omega)
/-- P2.1: a text's bytes -/
def txt (l : List UInt8) : List UInt8 := num l.length ++ l

theorem number_any (n : Int) (w : World) :
    Calls Tryd.prog 46 #[.int .i64 n] w fun e w' => e = .returned (.string (bs (numS n))) ∧ Gr w w' := by
  by_cases h : 0 ≤ n ∧ n < 4611686018427387904
  · rw [numS_in h.1 h.2]; exact number_ok (n.toNat + 1) n w (by omega) h.1 h.2
  · rw [numS_out (by omega)]; exact number_out n w (by omega)

theorem puttext_ok (b t : List UInt8) (w : World) (hb : b.length ≤ 1152921504606846976) (ht : t.length ≤ 4096) :
    Calls Tryd.prog 51 #[.string (bs b), .string (bs t)] w fun e w' => e = .returned (.tuple #[.string (bs (b ++ txt t)), .int .i64 0]) ∧ Gr w w' := by
  have hl := num_len9 (n := t.length) (by omega)
  go_enter Tryd.func51, Tryd.ntmps51
  go_wp2_with (go_at_call 50; refine (put_ok b _ _ (by omega) (by omega) hb).mono ?_; rintro e w1 ⟨rfl, g1⟩; rw [Int.toNat_natCast])
  go_ret2
  exact ⟨by simp [txt], g1⟩

theorem puttext_long (b t : List UInt8) (w : World) (ht : 4096 < t.length) :
    Calls Tryd.prog 51 #[.string (bs b), .string (bs t)] w fun e w' => e = .returned (.tuple #[.string (bs []), .int .i64 1]) ∧ w = w' := by
  go_enter Tryd.func51, Tryd.ntmps51
  go_wp2
  go_ret2
  exact ⟨rfl, rfl⟩

end Go.Proofs.YtmmpekdbknclcaaDoor

namespace Go.Proofs.YtmmpekdbknclcaaDoor
open Go.RowKit
theorem strCells_bs (l : List UInt8) : Lib.strCells (bs l) = l.map byteV := by
  unfold Lib.strCells byteV; rw [bs_data]

/-- append of a string onto a row of bytes of the call's own -/
theorem wpList_append_str {ops : Array Oper} {rest : List Oper} {o : Oper} {a : Act} {Q : Exit → Act → World → Prop} {w : World} {t u e : TypeId}
    (E : ElemOk t e (.int .u8 0) 1 1) (hu : Tryd.prog.underlying u = some .string) (hgd : o.guard = none) (sl x : Operand) (ho : o.op = .call { callee := .builtin .append, args := #[sl, x], argTypes := #[t, u] })
    {B : Nat} {A : Option Addr} {cap : Nat} {l s : List UInt8} (hs : a.eval sl = .slice A l.length cap) (hown : w.ownsRow B e 1 (.slice A l.length cap) l.length (l.map byteV)) (hx : a.eval x = .string (bs s))
    (hbytes : l.length + s.length ≤ 140737488355328) (hB : B ≤ w.heap.size)
    (h : ∀ A' cap' w', w'.ownsRow B e 1 (.slice A' (l ++ s).length cap') (l ++ s).length ((l ++ s).map byteV) → w.grownBy w' (Value.ownBlock (.slice A l.length cap)) →
      wpList Tryd.prog ops Q rest (a.put o.dst (.slice A' (l ++ s).length cap')) w') :
    wpList Tryd.prog ops Q (o :: rest) a w := by
  obtain ⟨i0, hi0, hz0, hz1, hz2⟩ := info_parts E.info
  refine Lib.wpList_append_own_string (P := Tryd.prog) w hgd sl x t u ho B e i0 E.under hu hi0 hz0 hz1 hz2 _ l.length _ hs hown (bs s) hx (by rw [bs_size]; unfold maxLen; omega) (by rw [bs_size]; exact hbytes) hB ?_
  intro v' w' hown' hg _
  rw [bs_size, strCells_bs, ← List.map_append] at hown'
  have el : l.length + s.length = (l ++ s).length := by simp
  rw [el] at hown'
  rcases hown'.2 with ⟨hv, h0⟩ | ⟨g, cap', cur, hv, _⟩
  · subst hv
    have h1 : (l ++ s).length = 0 := h0
    have := h none 0 w'
    rw [h1] at this hown'
    exact this hown' hg
  · subst hv
    exact h (some ⟨g, 0, none⟩) cap' w' hown' hg

abbrev St2 := List UInt8 × Nat
/-- a writer that holds l, with error e, lies in block g; its row is younger than B -/
structure WrAt (w : World) (B g : Nat) (q : List UInt8 × Nat) : Prop where
  ex : ∃ A cap, Blk w g 62 #[.slice A q.1.length cap, .int .i64 (q.2 : Int)] ∧ w.ownsRow B 5 1 (.slice A q.1.length cap) q.1.length (q.1.map byteV)
  base : B ≤ g
  len : q.1.length ≤ 35184372088832
/-- blocks of cells of another type than byte, other than g, are as they were -/
def KeepT (g : Nat) (w w' : World) : Prop := ∀ k cs t, k ≠ g → t ≠ 5 → Blk w k t cs → Blk w' k t cs

theorem WrAt.gr {w w' : World} {B g : Nat} {q : List UInt8 × Nat} (h : WrAt w B g q) (k : Gr w w') : WrAt w' B g q :=
  ⟨by obtain ⟨A, cap, hb, ho⟩ := h.ex; exact ⟨A, cap, hb.gr k, own_gr ho k⟩, h.base, h.len⟩
theorem KeepT.refl (g : Nat) (w : World) : KeepT g w w := fun _ _ _ _ _ h => h
theorem KeepT.trans {g : Nat} {a b c : World} (h : KeepT g a b) (k : KeepT g b c) : KeepT g a c := fun i cs t h1 h2 h3 => k i cs t h1 h2 (h i cs t h1 h2 h3)
theorem KeepT.gr {g : Nat} {a b : World} (h : Gr a b) : KeepT g a b := fun _ _ _ _ _ h3 => h3.gr h

/-- what the two stores into the writer leave -/
theorem only_set2' (w : World) (g : Nat) (u v : Value) : w.grownBy ((w.setCell ⟨g, 0, none⟩ u).setCell ⟨g, 1, none⟩ v) (some g) :=
  ⟨rfl, rfl, rfl, by simp [World.setCell], fun k _ hne => by
    rw [Below.heap_setCell _ _ _ _ (fun e => hne (by rw [e])), Below.heap_setCell _ _ _ _ (fun e => hne (by rw [e]))]⟩
theorem wr_done {w w1 : World} {B g : Nat} {A A' : Option Addr} {cap cap' : Nat} {l l' : List UInt8} {e e' : Nat} (hg : B ≤ g) (hb : Blk w g 62 #[.slice A l.length cap, .int .i64 (e : Int)])
    (ho : w.ownsRow B 5 1 (.slice A l.length cap) l.length (l.map byteV)) (ho' : w1.ownsRow B 5 1 (.slice A' l'.length cap') l'.length (l'.map byteV)) (hgr : w.grownBy w1 (Value.ownBlock (.slice A l.length cap))) (hB : B ≤ w.heap.size) (hl : l'.length ≤ 35184372088832) :
    WrAt ((w1.setCell ⟨g, 0, none⟩ (.slice A' l'.length cap')).setCell ⟨g, 1, none⟩ (.int .i64 (e' : Int))) B g (l', e') ∧
    Below B w ((w1.setCell ⟨g, 0, none⟩ (.slice A' l'.length cap')).setCell ⟨g, 1, none⟩ (.int .i64 (e' : Int))) ∧
    KeepT g w ((w1.setCell ⟨g, 0, none⟩ (.slice A' l'.length cap')).setCell ⟨g, 1, none⟩ (.int .i64 (e' : Int))) := by
  have hb1 := blk_own hb ho (by decide) hgr
  have hb2 := (hb1.set_ 0 (.slice A' l'.length cap')).set_ 1 (.int .i64 (e' : Int))
  have hon := only_set2' w1 g (.slice A' l'.length cap') (.int .i64 (e' : Int))
  refine ⟨⟨⟨A', cap', by simpa using hb2, own_only ho' hb1 (by decide) hon⟩, hg, hl⟩, ?_, ?_⟩
  · have h1 : Below B w w1 := (Below.refl B w).grown hgr hB (fun k hk => (ho.lt k hk).1)
    exact (h1.setCell (p := ⟨g, 0, none⟩) hg _).setCell (p := ⟨g, 1, none⟩) hg _
  · intro k cs t hk ht hbk
    have h1 : Blk w1 k t cs := blk_own hbk ho (fun e => ht e.symm) hgr
    exact h1.grown hon (by simpa using hk)

/-- P2.5 -/
def wNum (n : Int) (q : St2) : St2 := if q.2 = 0 then (q.1 ++ numS n, if 0 ≤ n ∧ n < 4611686018427387904 then 0 else 3) else q
def wTxt (t : List UInt8) (q : St2) : St2 := if q.2 = 0 then (if t.length ≤ 4096 then (q.1 ++ txt t, 0) else (q.1, 1)) else q
set_option maxRecDepth 100000 in
theorem wrNumber (B g : Nat) (q : St2) (n : Int) (w : World) (h : WrAt w B g q) (hlen : q.1.length ≤ 35184372088000) :
    Calls Tryd.prog 34 #[.pointer (some ⟨g, 0, none⟩), .int .i64 n] w fun e w' => e = .returned (.tuple #[]) ∧ WrAt w' B g (wNum n q) ∧ Below B w w' ∧ KeepT g w w' := by
  obtain ⟨l, er⟩ := q
  obtain ⟨A, cap, hb, ho⟩ := h.ex
  have hg := h.base
  have hB : B ≤ w.heap.size := by have := hb.lt; omega
  simp only at hb ho hlen
  have hc0 : w.cell? ⟨g, 0, none⟩ = some (.slice A l.length cap) := hb.cell 0
  have hc1 : w.cell? ⟨g, 1, none⟩ = some (.int .i64 (er : Int)) := hb.cell 1
  by_cases he : er = 0
  · subst he
    by_cases hn : 0 ≤ n ∧ n < 4611686018427387904
    · have hN := numS_in hn.1 hn.2
      have h9 := num_len9 (n := n.toNat) (by omega)
      have HN := sec hN
      clear hN
      go_enter Tryd.func34, Tryd.ntmps34
      go_wp2_with (first
        | (go_at_call 50; refine (put_ok [] _ _ (by omega) (by omega) (by simp)).mono ?_; rintro e w1 ⟨rfl, g1⟩; rw [List.nil_append]; have hb1 := hb.gr g1; have c0 : w1.cell? ⟨g, 0, none⟩ = some (.slice A l.length cap) := hb1.cell 0; have ho1 := own_gr ho g1; have hB1 : B ≤ w1.heap.size := by have := g1.size; omega)
        | (at_builtin; refine wpList_append_str E.u8 Tryd.underlying9 rfl (.tmp 25) (.tmp 26) rfl rfl ho1 rfl (by first | omega | (simp; omega)) hB1 ?_; intro A2 cap2 w2 ho2 hg2; have hb2 := blk_own hb1 ho1 (by decide) hg2; have d0 : w2.cell? ⟨g, 0, none⟩ = some (.slice A l.length cap) := hb2.cell 0; have d1 : w2.cell? ⟨g, 1, none⟩ = some (.int .i64 ((0 : Nat) : Int)) := hb2.cell 1; have f0 := hb2.frozen 0; have f1 := hb2.frozen 1))
      first | go_end0 | refine bodyPost_ret (results_none rfl _ _ _) rfl ?_
      obtain ⟨r1, r2, r3⟩ := wr_done (e' := 0) hg hb1 ho1 ho2 hg2 hB1 (by first | omega | (simp; omega))
      exact ⟨rfl, by simpa [wNum, hn, HN.out] using r1, (g1.below.mono hB).trans (by simpa using r2), (KeepT.gr g1).trans (by simpa using r3)⟩
    · have hN := numS_out (n := n) (by omega)
      have HN := sec hN
      clear hN
      go_enter Tryd.func34, Tryd.ntmps34
      go_wp2_with (first
        | (go_at_call 50; refine (put_err [] _ _ (by omega)).mono ?_; rintro e w1 ⟨rfl, rfl⟩; have hb1 := hb; have ho1 := ho; have hB1 := hB)
        | (at_builtin; refine wpList_append_str (s := []) E.u8 Tryd.underlying9 rfl (.tmp 25) (.tmp 26) rfl rfl ho1 rfl (by first | omega | (simp; omega)) hB1 ?_; intro A2 cap2 w2 ho2 hg2; rw [List.append_nil] at ho2; have hb2 := blk_own hb1 ho1 (by decide) hg2; have d0 : w2.cell? ⟨g, 0, none⟩ = some (.slice A l.length cap) := hb2.cell 0; have d1 : w2.cell? ⟨g, 1, none⟩ = some (.int .i64 ((0 : Nat) : Int)) := hb2.cell 1; have f0 := hb2.frozen 0; have f1 := hb2.frozen 1))
      first | go_end0 | refine bodyPost_ret (results_none rfl _ _ _) rfl ?_
      obtain ⟨r1, r2, r3⟩ := wr_done (e' := 3) hg hb1 ho1 ho2 hg2 hB1 (by first | omega | (simp; omega))
      exact ⟨rfl, by simpa [wNum, hn, HN.out] using r1, by first | exact r2 | simpa using r2, by first | exact r3 | simpa using r3⟩
  · have he' : ((er : Int) == 0) = false := by simpa using he
    have he2 : ((er : Int) != 0) = true := by simpa using he
    go_enter Tryd.func34, Tryd.ntmps34
    go_wp2
    first | go_end0 | refine bodyPost_ret (results_none rfl _ _ _) rfl ?_
    exact ⟨rfl, by simpa [wNum, he] using h, Below.refl _ _, KeepT.refl _ _⟩

set_option maxRecDepth 100000 in
theorem wrDone (B g : Nat) (q : St2) (w : World) (h : WrAt w B g q) :
    Calls Tryd.prog 36 #[.pointer (some ⟨g, 0, none⟩)] w fun e w' => e = .returned (.tuple #[.string (bs (if q.2 = 0 then q.1 else [])), .int .i64 (q.2 : Int)]) ∧ Gr w w' := by
  obtain ⟨l, er⟩ := q
  obtain ⟨A, cap, hb, ho⟩ := h.ex
  simp only at hb ho
  have hc0 : w.cell? ⟨g, 0, none⟩ = some (.slice A l.length cap) := hb.cell 0
  have hc1 : w.cell? ⟨g, 1, none⟩ = some (.int .i64 (er : Int)) := hb.cell 1
  by_cases he : er = 0
  · subst he
    have hcv := run_conv_own (src := 60) (dst := 9) Tryd.underlying60 Tryd.underlying5 Tryd.underlying9 ho
    go_enter Tryd.func36, Tryd.ntmps36
    go_wp2
    go_ret2
    exact ⟨rfl, Gr.refl _⟩
  · have he' : ((er : Int) == 0) = false := by simpa using he
    have he2 : ((er : Int) != 0) = true := by simpa using he
    go_enter Tryd.func36, Tryd.ntmps36
    go_wp2
    go_quiet (fail)
    go_wp2
    go_ret2
    exact ⟨by simp, (Gr.refl _).drewN _⟩

end Go.Proofs.YtmmpekdbknclcaaDoor

namespace Go.Proofs.YtmmpekdbknclcaaDoor
set_option maxRecDepth 100000
open Go.RowKit
set_option linter.unusedVariables false
/-- a step -/
structure Stp where
  r : List UInt8
  o : List UInt8
  n : List UInt8
  who : List Int
  seals : List (List UInt8)
def stepA (s : Stp) (A : Option Addr) (c : Nat) (B : Option Addr) (d : Nat) : Array Value := #[.string (bs s.r), .string (bs s.o), .string (bs s.n), .slice A s.who.length c, .slice B s.seals.length d]
theorem aggStep : AggOk 37 5 := ⟨⟨_, Tryd.underlying37, rfl⟩, by kernel_rfl⟩

/-- a number in a cell -/
def iV (n : Int) : Value := .int .i64 n
def IntRow (w : World) (A : Option Addr) (n : Nat) (l : List Int) : Prop := Row w 1 A n (l.map iV)
theorem IntRow.len {w : World} {A : Option Addr} {n : Nat} {l : List Int} (h : IntRow w A n l) : l.length = n := by have := Row.len h; simpa using this
theorem IntRow.gr {w w' : World} {A : Option Addr} {n : Nat} {l : List Int} (h : IntRow w A n l) (g : Gr w w') : IntRow w' A n l := Row.gr h g
theorem IntRow.cell {w : World} {A : Option Addr} {n : Nat} {l : List Int} (h : IntRow w A n l) {i : Nat} (hi : i < l.length) : ∃ b off, A = some ⟨b, off, none⟩ ∧ w.cell? ⟨b, off + i, none⟩ = some (.int .i64 l[i]) := by
  obtain ⟨b, off, e, hl, hc⟩ := Row.cell1 h (i := i) (by have := h.len; omega)
  exact ⟨b, off, e, by simpa [iV] using hc⟩

/-- the step's two slices as they lie in a world -/
structure StR (w : World) (s : Stp) (A : Option Addr) (c : Nat) (B : Option Addr) (d : Nat) : Prop where
  who : IntRow w A s.who.length s.who
  seals : StrRow w B s.seals.length s.seals
  wn : A = none → s.who.length = 0 ∧ c = 0
  sn : B = none → s.seals.length = 0 ∧ d = 0
  wc : s.who.length ≤ c
  sc : s.seals.length ≤ d
theorem StR.gr {w w' : World} {s : Stp} {A : Option Addr} {c : Nat} {B : Option Addr} {d : Nat} (h : StR w s A c B d) (g : Gr w w') : StR w' s A c B d := ⟨h.who.gr g, h.seals.gr g, h.wn, h.sn, h.wc, h.sc⟩
/-- no part is longer than so many -/
structure StSz (k : Nat) (s : Stp) : Prop where
  r : s.r.length ≤ k
  o : s.o.length ≤ k
  n : s.n.length ≤ k
  who : s.who.length ≤ k
  seals : s.seals.length ≤ k
  each : ∀ x ∈ s.seals, x.length ≤ k

/-- P8.3: an id, or none -/
def mayB (l : List UInt8) : Bool := decide (l.length = 0) || decide (l.length = 32)
/-- P10.1: those who seal, behind a last one: the error -/
def stF : Int → List Int → List (List UInt8) → Int
  | last, w :: ws, s :: ss => if w ≤ last ∨ 7 < w then 3 else if s.length = 32 then stF w ws ss else 2
  | _, _, _ => 0
/-- P10.1: is it of the form that is wanted -/
def stB (s : Stp) : Bool := refB s.r && (mayB s.o && (mayB s.n && !(s.o == s.n)))
/-- P10.1: the error -/
def stE (s : Stp) : Int := if stB s = true then (if 8 < s.who.length ∨ ¬ s.seals.length = s.who.length then 6 else stF (-1) s.who s.seals) else 2
/-- where the loop stands: i seen, all of them right; the last one's number -/
def stSeen (s : Stp) (i : Nat) (last : Int) : Prop :=
  stF (-1) s.who s.seals = stF last (s.who.drop i) (s.seals.drop i) ∧ (i = 0 → last = -1) ∧ (∀ h : 0 < i ∧ i ≤ s.who.length, last = s.who[i - 1]'(by omega) ∧ 0 ≤ last)
theorem stSeen0 (s : Stp) : stSeen s 0 (-1) := ⟨rfl, fun _ => rfl, fun h => absurd h.1 (by omega)⟩
theorem stF_cons (last w : Int) (ws : List Int) (x : List UInt8) (ss : List (List UInt8)) : stF last (w :: ws) (x :: ss) = if w ≤ last ∨ 7 < w then 3 else if x.length = 32 then stF w ws ss else 2 := rfl
theorem stSeen.here {s : Stp} {i : Nat} {last : Int} (h : stSeen s i last) (hi : i < s.who.length) (hs : i < s.seals.length) :
    stF (-1) s.who s.seals = if s.who[i] ≤ last ∨ 7 < s.who[i] then 3 else if (s.seals[i]).length = 32 then stF s.who[i] (s.who.drop (i + 1)) (s.seals.drop (i + 1)) else 2 := by
  rw [h.1, List.drop_eq_getElem_cons hi, List.drop_eq_getElem_cons hs]
  exact stF_cons ..
theorem stSeen.low {s : Stp} {i : Nat} {last : Int} (h : stSeen s i last) (hi : i ≤ s.who.length) : -1 ≤ last := by
  by_cases e : i = 0
  · have := h.2.1 e; omega
  · have := (h.2.2 ⟨by omega, by omega⟩).2; omega
theorem stSeen.next {s : Stp} {i : Nat} {last : Int} (h : stSeen s i last) (hi : i < s.who.length) (hs : i < s.seals.length) (h1 : ¬ (s.who[i] ≤ last ∨ 7 < s.who[i])) (h2 : (s.seals[i]).length = 32) : stSeen s (i + 1) s.who[i] := by
  have hl := h.low (by omega)
  refine ⟨?_, fun e => absurd e (by omega), fun _ => ⟨rfl, by omega⟩⟩
  rw [h.here hi hs, if_neg h1, if_pos h2]
theorem stSeen.done {s : Stp} {i : Nat} {last : Int} (h : stSeen s i last) (hi : s.who.length ≤ i) : stF (-1) s.who s.seals = 0 := by
  rw [h.1, List.drop_eq_nil_of_le hi]
  cases s.seals.drop i <;> rfl
/-- what stands of a good step -/
theorem stF_zero : ∀ (ws : List Int) (ss : List (List UInt8)) (last : Int), ws.length = ss.length → stF last ws ss = 0 → (∀ x ∈ ss, x.length = 32) ∧ (∀ w ∈ ws, last < w ∧ w ≤ 7)
  | [], [], last, _, _ => ⟨by simp, by simp⟩
  | [], x :: ss, last, h, _ => by simp at h
  | w :: ws, [], last, h, _ => by simp at h
  | w :: ws, x :: ss, last, h, h0 => by
    rw [stF_cons] at h0
    split at h0
    · cases h0
    · rename_i h1
      split at h0
      · rename_i h2
        obtain ⟨a, b⟩ := stF_zero ws ss w (by simpa using h) h0
        refine ⟨fun y hy => ?_, fun y hy => ?_⟩
        · rcases List.mem_cons.1 hy with rfl | hy
          · exact h2
          · exact a y hy
        · rcases List.mem_cons.1 hy with rfl | hy
          · omega
          · have := b y hy; omega
      · cases h0
theorem stE_zero {s : Stp} (h : stE s = 0) : refB s.r = true ∧ s.r.length ≤ 60 ∧ s.o.length ≤ 32 ∧ s.n.length ≤ 32 ∧ s.who.length ≤ 8 ∧ s.seals.length = s.who.length ∧ (∀ x ∈ s.seals, x.length = 32) ∧ (∀ w ∈ s.who, -1 < w ∧ w ≤ 7) ∧ stF (-1) s.who s.seals = 0 := by
  unfold stE at h
  split at h
  · rename_i hb
    split at h
    · cases h
    · rename_i h1
      have hl : s.seals.length = s.who.length := by omega
      obtain ⟨a, b⟩ := stF_zero s.who s.seals (-1) hl.symm h
      unfold stB mayB at hb
      simp only [Bool.and_eq_true, Bool.or_eq_true, decide_eq_true_eq] at hb
      have hr : s.r.length ≤ 60 := by
        have := hb.1
        unfold refB at this
        simp only [Bool.and_eq_true, decide_eq_true_eq] at this
        exact this.2
      exact ⟨hb.1, hr, by omega, by omega, by omega, hl, a, b, h⟩
  · cases h

theorem may_cases (l : List UInt8) : (((l.length : Int) != 0) = false ∧ mayB l = true) ∨ (((l.length : Int) != 0) = true ∧ ((l.length : Int) != 32) = false ∧ mayB l = true) ∨ (((l.length : Int) != 0) = true ∧ ((l.length : Int) != 32) = true ∧ mayB l = false) := by
  by_cases h0 : l.length = 0
  · left
    refine ⟨?_, ?_⟩
    · rw [bne_eq_false_iff_eq]; omega
    · unfold mayB; rw [decide_eq_true h0]; rfl
  · by_cases h1 : l.length = 32
    · right; left
      refine ⟨?_, ?_, ?_⟩
      · rw [bne_iff_ne]; omega
      · rw [bne_eq_false_iff_eq]; omega
      · unfold mayB; rw [decide_eq_true h1]; simp
    · right; right
      refine ⟨?_, ?_, ?_⟩
      · rw [bne_iff_ne]; omega
      · rw [bne_iff_ne]; omega
      · unfold mayB; rw [decide_eq_false h0, decide_eq_false h1]; rfl

/-! ### the body, the bytes -/
/-- P10.2 -/
def bodyR (at_ : Int) (s : Stp) : List UInt8 × Int :=
  if at_ < 0 ∨ 199 < at_ then ([], 3) else if 4096 < s.r.length ∨ 4096 < s.o.length ∨ 4096 < s.n.length then ([], 1) else (numS at_ ++ txt s.r ++ txt s.o ++ txt s.n, 0)
theorem txt_len (l : List UInt8) (h : l.length < 4611686018427387904) : (txt l).length ≤ l.length + 9 := by
  unfold txt
  have := num_len9 (n := l.length) h
  rw [List.length_append]
  omega
theorem bodyR_len (at_ : Int) (s : Stp) : (bodyR at_ s).1.length ≤ 16384 := by
  unfold bodyR
  split
  · simp
  · split
    · simp
    · rename_i h0 h1
      have a := txt_len s.r (by omega)
      have b := txt_len s.o (by omega)
      have c := txt_len s.n (by omega)
      have e : (numS at_).length ≤ 9 := by rw [numS_in (by omega) (by omega)]; exact num_len9 (by omega)
      simp only [List.length_append]
      omega
end Go.Proofs.YtmmpekdbknclcaaDoor

namespace Go.Proofs.YtmmpekdbknclcaaDoor
open Go.RowKit
theorem text_any (t : List UInt8) (w : World) (ht : t.length ≤ 1152921504606846976) :
    Calls Tryd.prog 47 #[.string (bs t)] w fun e w' => e = .returned (.string (bs (txt t))) ∧ Gr w w' := by
  have hl := num_len9 (n := t.length) (by omega)
  have e1 := numS_nat (n := t.length) (by omega)
  have E1 := sec e1
  clear e1
  go_enter Tryd.func47, Tryd.ntmps47
  go_wp2_with (go_at_call 46; refine (number_any _ _).mono ?_; rintro e w1 ⟨rfl, g1⟩; rw [E1.out])
  go_ret
  exact ⟨rfl, g1⟩

end Go.Proofs.YtmmpekdbknclcaaDoor

namespace Go.Proofs.YtmmpekdbknclcaaDoor
open Go.RowKit
set_option maxRecDepth 100000 in
theorem wrText (B g : Nat) (q : St2) (t : List UInt8) (w : World) (h : WrAt w B g q) (hlen : q.1.length ≤ 35184372080000) :
    Calls Tryd.prog 35 #[.pointer (some ⟨g, 0, none⟩), .string (bs t)] w fun e w' => e = .returned (.tuple #[]) ∧ WrAt w' B g (wTxt t q) ∧ Below B w w' ∧ KeepT g w w' := by
  obtain ⟨l, er⟩ := q
  obtain ⟨A, cap, hb, ho⟩ := h.ex
  have hg := h.base
  have hB : B ≤ w.heap.size := by have := hb.lt; omega
  simp only at hb ho hlen
  have hc0 : w.cell? ⟨g, 0, none⟩ = some (.slice A l.length cap) := hb.cell 0
  have hc1 : w.cell? ⟨g, 1, none⟩ = some (.int .i64 (er : Int)) := hb.cell 1
  by_cases he : er = 0
  · subst he
    by_cases hn : t.length ≤ 4096
    · have h9 := num_len9 (n := t.length) (by omega)
      have hx : (txt t).length = (num t.length).length + t.length := by simp [txt]
      have hx' : (txt t).length ≤ 4105 := by omega
      clear hx h9
      go_enter Tryd.func35, Tryd.ntmps35
      go_wp2_with (first
        | (go_at_call 51; refine (puttext_ok [] _ _ (by simp) hn).mono ?_; rintro e w1 ⟨rfl, g1⟩; rw [List.nil_append]; have hb1 := hb.gr g1; have c0 : w1.cell? ⟨g, 0, none⟩ = some (.slice A l.length cap) := hb1.cell 0; have ho1 := own_gr ho g1; have hB1 : B ≤ w1.heap.size := by have := g1.size; omega)
        | (at_builtin; refine wpList_append_str E.u8 Tryd.underlying9 rfl (.tmp 25) (.tmp 26) rfl rfl ho1 rfl (by first | omega | (simp; omega)) hB1 ?_; intro A2 cap2 w2 ho2 hg2; have hb2 := blk_own hb1 ho1 (by decide) hg2; have d0 : w2.cell? ⟨g, 0, none⟩ = some (.slice A l.length cap) := hb2.cell 0; have d1 : w2.cell? ⟨g, 1, none⟩ = some (.int .i64 ((0 : Nat) : Int)) := hb2.cell 1; have f0 := hb2.frozen 0; have f1 := hb2.frozen 1))
      first | go_end0 | refine bodyPost_ret (results_none rfl _ _ _) rfl ?_
      obtain ⟨r1, r2, r3⟩ := wr_done (e' := 0) hg hb1 ho1 ho2 hg2 hB1 (by first | omega | (simp; omega))
      exact ⟨rfl, by simpa [wTxt, hn] using r1, (g1.below.mono hB).trans (by simpa using r2), (KeepT.gr g1).trans (by simpa using r3)⟩
    · go_enter Tryd.func35, Tryd.ntmps35
      go_wp2_with (first
        | (go_at_call 51; refine (puttext_long [] _ _ (by omega)).mono ?_; rintro e w1 ⟨rfl, rfl⟩; have hb1 := hb; have ho1 := ho; have hB1 := hB)
        | (at_builtin; refine wpList_append_str (s := []) E.u8 Tryd.underlying9 rfl (.tmp 25) (.tmp 26) rfl rfl ho1 rfl (by first | omega | (simp; omega)) hB1 ?_; intro A2 cap2 w2 ho2 hg2; rw [List.append_nil] at ho2; have hb2 := blk_own hb1 ho1 (by decide) hg2; have d0 : w2.cell? ⟨g, 0, none⟩ = some (.slice A l.length cap) := hb2.cell 0; have d1 : w2.cell? ⟨g, 1, none⟩ = some (.int .i64 ((0 : Nat) : Int)) := hb2.cell 1; have f0 := hb2.frozen 0; have f1 := hb2.frozen 1))
      first | go_end0 | refine bodyPost_ret (results_none rfl _ _ _) rfl ?_
      obtain ⟨r1, r2, r3⟩ := wr_done (e' := 1) hg hb1 ho1 ho2 hg2 hB1 (by first | omega | (simp; omega))
      exact ⟨rfl, by simpa [wTxt, hn] using r1, by first | exact r2 | simpa using r2, by first | exact r3 | simpa using r3⟩
  · have he' : ((er : Int) == 0) = false := by simpa using he
    have he2 : ((er : Int) != 0) = true := by simpa using he
    go_enter Tryd.func35, Tryd.ntmps35
    go_wp2
    first | go_end0 | refine bodyPost_ret (results_none rfl _ _ _) rfl ?_
    exact ⟨rfl, by simpa [wTxt, he] using h, Below.refl _ _, KeepT.refl _ _⟩

end Go.Proofs.YtmmpekdbknclcaaDoor

namespace Go.Proofs.YtmmpekdbknclcaaDoor
set_option maxRecDepth 100000
open Go.RowKit
set_option linter.unusedVariables false
/-- what a writer holds behind three texts -/
def tri (s : Stp) (q : St2) : St2 := wTxt s.n (wTxt s.o (wTxt s.r q))
/-- behind i of them -/
def triAt (s : Stp) (q : St2) : Nat → St2
  | 0 => q
  | 1 => wTxt s.r q
  | 2 => wTxt s.o (wTxt s.r q)
  | _ => tri s q
def triX (s : Stp) : Nat → List UInt8
  | 0 => s.r
  | 1 => s.o
  | _ => s.n
theorem triAt_succ (s : Stp) (q : St2) (i : Nat) (h : i < 3) : triAt s q (i + 1) = wTxt (triX s i) (triAt s q i) := by
  match i, h with
  | 0, _ => rfl
  | 1, _ => rfl
  | 2, _ => rfl
theorem wTxt_len (t : List UInt8) (q : St2) : (wTxt t q).1.length ≤ q.1.length + 4105 := by
  unfold wTxt
  split
  · split
    · rename_i h
      have := txt_len t (by omega)
      simp only [List.length_append]
      omega
    · simp only; omega
  · omega
theorem triAt_len (s : Stp) (q : St2) : ∀ i, (triAt s q i).1.length ≤ q.1.length + 12315
  | 0 => by show q.1.length ≤ _; omega
  | 1 => by have := wTxt_len s.r q; show (wTxt s.r q).1.length ≤ _; omega
  | 2 => by
    have h1 := wTxt_len s.r q
    have h2 := wTxt_len s.o (wTxt s.r q)
    show (wTxt s.o (wTxt s.r q)).1.length ≤ _
    omega
  | n + 3 => by
    have h1 := wTxt_len s.r q
    have h2 := wTxt_len s.o (wTxt s.r q)
    have h3 := wTxt_len s.n (wTxt s.o (wTxt s.r q))
    show (wTxt s.n (wTxt s.o (wTxt s.r q))).1.length ≤ _
    omega
theorem body_wr {at_ : Int} (s : Stp) (h0 : 0 ≤ at_) (h1 : at_ ≤ 199) : (if (tri s (numS at_, 0)).2 = 0 then (tri s (numS at_, 0)).1 else [], ((tri s (numS at_, 0)).2 : Int)) = bodyR at_ s := by
  have hB : bodyR at_ s = if 4096 < s.r.length ∨ 4096 < s.o.length ∨ 4096 < s.n.length then ([], 1) else (numS at_ ++ txt s.r ++ txt s.o ++ txt s.n, 0) := by
    unfold bodyR
    rw [if_neg (show ¬ (at_ < 0 ∨ 199 < at_) by omega)]
  have no : ∀ (l t : List UInt8), wTxt t (l, 1) = (l, 1) := fun l t => by unfold wTxt; rw [if_neg (show ¬ (1 : Nat) = 0 by omega)]
  have yes : ∀ (l t : List UInt8), t.length ≤ 4096 → wTxt t (l, 0) = (l ++ txt t, 0) := fun l t h => by unfold wTxt; rw [if_pos rfl, if_pos h]
  have long : ∀ (l t : List UInt8), ¬ t.length ≤ 4096 → wTxt t (l, 0) = (l, 1) := fun l t h => by unfold wTxt; rw [if_pos rfl, if_neg h]
  have bad : ∀ l : List UInt8, (if (l, (1 : Nat)).2 = 0 then (l, (1 : Nat)).1 else ([] : List UInt8), ((l, (1 : Nat)).2 : Int)) = (([] : List UInt8), (1 : Int)) := fun l => rfl
  rw [hB]
  unfold tri
  by_cases a : s.r.length ≤ 4096
  · rw [yes _ _ a]
    by_cases b : s.o.length ≤ 4096
    · rw [yes _ _ b]
      by_cases c : s.n.length ≤ 4096
      · rw [yes _ _ c, if_neg (show ¬ (4096 < s.r.length ∨ 4096 < s.o.length ∨ 4096 < s.n.length) by omega)]; rfl
      · rw [long _ _ c, bad, if_pos (show 4096 < s.r.length ∨ 4096 < s.o.length ∨ 4096 < s.n.length by omega)]
    · rw [long _ _ b, no, bad, if_pos (show 4096 < s.r.length ∨ 4096 < s.o.length ∨ 4096 < s.n.length by omega)]
  · rw [long _ _ a, no, no, bad, if_pos (show 4096 < s.r.length ∨ 4096 < s.o.length ∨ 4096 < s.n.length by omega)]

set_option maxHeartbeats 8000000 in
theorem stBody_any (at_ : Int) (s : Stp) (A : Option Addr) (c : Nat) (B : Option Addr) (d : Nat) (w : World) (hz : StSz 1099511627776 s) :
    Calls Tryd.prog 18 #[.int .i64 at_, .agg (stepA s A c B d)] w fun e w' => e = .returned (.tuple #[.string (bs (bodyR at_ s).1), .int .i64 (bodyR at_ s).2]) ∧ Gr w w' := by
  obtain ⟨wa, hwa⟩ : ∃ x, x = w.alloc (.cells (stepA s A c B d) 37) := ⟨_, rfl⟩
  have hb : Blk wa w.heap.size 37 (stepA s A c B d) := by rw [hwa]; exact Blk.new w _ _
  have hg0 : Gr w wa := by rw [hwa]; exact (Gr.refl w).alloc _
  obtain ⟨p, hp⟩ : ∃ p, p = w.heap.size := ⟨_, rfl⟩
  rw [← hp] at hb
  by_cases hr : at_ < 0 ∨ 199 < at_
  · have HR : Sec (bodyR at_ s = ([], 3)) := sec (by unfold bodyR; rw [if_pos hr])
    rw [HR.out]
    unfold stepA at hwa
    unfold stepA
    by_cases h0 : at_ < 0
    · have q0 : decide (at_ < 0) = true := decide_eq_true h0
      clear hr hb
      go_enter Tryd.func18, Tryd.ntmps18
      go_wp2_with (first | (rw [← hwa, ← hp]; clear hwa hp; go_wp2_with fail))
      go_ret2
      exact ⟨rfl, hg0⟩
    · have q0 : decide (at_ < 0) = false := decide_eq_false h0
      have q1 : decide (200 ≤ at_) = true := decide_eq_true (by omega)
      clear hr hb
      go_enter Tryd.func18, Tryd.ntmps18
      go_wp2_with (first | (rw [← hwa, ← hp]; clear hwa hp; go_wp2_with fail))
      go_ret2
      exact ⟨rfl, hg0⟩
  · have q0 : decide (at_ < 0) = false := decide_eq_false (by omega)
    have q1 : decide (200 ≤ at_) = false := decide_eq_false (by omega)
    have HBW := sec (body_wr (at_ := at_) s (by omega) (by omega))
    have hnl : (numS at_).length ≤ 9 := by rw [numS_in (by omega) (by omega)]; exact num_len9 (by omega)
    have HTL := sec (triAt_len s (numS at_, 0))
    have HTS := sec (triAt_succ s (numS at_, 0))
    have HNu : Sec (∀ B g w, WrAt w B g ([], 0) → Calls Tryd.prog 34 #[.pointer (some ⟨g, 0, none⟩), .int .i64 at_] w fun e w' => e = .returned (.tuple #[]) ∧ WrAt w' B g (triAt s (numS at_, 0) 0) ∧ Below B w w' ∧ KeepT g w w') := sec (fun B g w h => by
      have := wrNumber B g ([], 0) at_ w h (by simp)
      have e : wNum at_ ([], 0) = (numS at_, 0) := by unfold wNum; rw [if_pos rfl, if_pos ⟨by omega, by omega⟩]; rfl
      rwa [e] at this)
    have HTx : Sec (∀ B g w i, i < 3 → WrAt w B g (triAt s (numS at_, 0) i) → Calls Tryd.prog 35 #[.pointer (some ⟨g, 0, none⟩), .string (bs (triX s i))] w fun e w' => e = .returned (.tuple #[]) ∧ WrAt w' B g (triAt s (numS at_, 0) (i + 1)) ∧ Below B w w' ∧ KeepT g w w') := sec (fun B g w i hi h => by
      have := wrText B g _ (triX s i) w h (by have := HTL.out i; simp only at this; omega)
      rwa [← HTS.out i hi] at this)
    have HDn : Sec (∀ B g w, WrAt w B g (triAt s (numS at_, 0) 3) → Calls Tryd.prog 36 #[.pointer (some ⟨g, 0, none⟩)] w fun e w' => e = .returned (.tuple #[.string (bs (bodyR at_ s).1), .int .i64 (bodyR at_ s).2]) ∧ Gr w w') := sec (fun B g w h => by
      have := wrDone B g _ w h
      have e := HBW.out
      have e1 := congrArg Prod.fst e
      have e2 := congrArg Prod.snd e
      simp only at e1 e2
      rw [← e1, ← e2]
      exact this)
    have HW0 : Sec (∀ w1 : World, WrAt (w1.alloc (.cells #[.slice none 0 0, .int .i64 0] 62)) w1.heap.size w1.heap.size ([], 0)) := sec (fun w1 => ⟨⟨none, 0, Blk.new w1 _ _, World.ownsRow_nil _ _ _ _⟩, Nat.le_refl _, by simp⟩)
    obtain ⟨R, hRR⟩ : ∃ R, R = bodyR at_ s := ⟨_, rfl⟩
    rw [← hRR] at HDn
    rw [← hRR]
    obtain ⟨T, hT⟩ : ∃ T, T = triAt s (numS at_, 0) := ⟨_, rfl⟩
    rw [← hT] at HNu HTx HDn
    have HB := sec hb
    clear hr hb HBW hnl HTL HTS hRR hT hz
    unfold stepA at hwa
    unfold stepA
    go_enter Tryd.func18, Tryd.ntmps18
    go_upto_region 3 with fail
    rw [← hwa, ← hp]
    clear hwa hp
    go_wp2_with (go_at_call 34; refine Calls.mono (HNu.out wa.heap.size wa.heap.size _ (HW0.out wa)) ?_; rintro e w2 ⟨rfl, d2, k2, _⟩; have g2 : Gr wa w2 := Below.trans ((Gr.refl wa).alloc _) k2; have y0 : w2.cell? ⟨p, 0, none⟩ = some (.string (bs s.r)) := (HB.out.gr g2).cell 0; have y1 : w2.cell? ⟨p, 1, none⟩ = some (.string (bs s.o)) := (HB.out.gr g2).cell 1; have y2 : w2.cell? ⟨p, 2, none⟩ = some (.string (bs s.n)) := (HB.out.gr g2).cell 2)
    have hv := Blk.new w2 9 #[.string (bs s.r), .string (bs s.o), .string (bs s.n)]
    have dv := d2.gr ((Gr.refl w2).alloc (.cells #[.string (bs s.r), .string (bs s.o), .string (bs s.n)] 9))
    have gv := g2.alloc (.cells #[.string (bs s.r), .string (bs s.o), .string (bs s.n)] 9)
    have hpq : w2.heap.size ≠ wa.heap.size := by have := d2.ex; obtain ⟨_, _, h, _⟩ := this; have := h.lt; omega
    obtain ⟨wb, hwb⟩ : ∃ x, x = w2.alloc (.cells #[.string (bs s.r), .string (bs s.o), .string (bs s.n)] 9) := ⟨_, rfl⟩
    obtain ⟨v, hvv⟩ : ∃ v, v = w2.heap.size := ⟨_, rfl⟩
    obtain ⟨g, hgg⟩ : ∃ g, g = wa.heap.size := ⟨_, rfl⟩
    rw [← hwb] at hv dv gv
    rw [← hvv] at hv hpq
    rw [← hgg] at dv hpq
    rw [← hwb, ← hvv, ← hgg]
    have HG := sec hgg
    clear hwb hvv hgg y0 y1 y2 d2 k2 g2
    go_loopg [28, 8] 3 (fun fuel iv _ wr => ∃ i : Nat, iv = .int .i64 (i : Int) ∧ 3 ≤ i + fuel ∧ i ≤ 3 ∧ WrAt wr g g (T i) ∧ Blk wr v 9 #[.string (bs s.r), .string (bs s.o), .string (bs s.n)] ∧ Gr wa wr)
    case atStart => exact ⟨0, rfl, by omega, by omega, dv, hv, gv⟩
    case round =>
      clear hv dv gv
      obtain ⟨i, rfl, hik, hi, dw, bw, gw⟩ := hrel
      by_cases h3 : i < 3
      · have hTi := HTx.out g g wr i h3 dw
        have hc : wr.cell? ⟨v, i, none⟩ = some (.string (bs (triX s i))) := by
          match i, h3 with
          | 0, _ => exact bw.cell 0
          | 1, _ => exact bw.cell 1
          | 2, _ => exact bw.cell 2
        have HTi := sec hTi
        have hii : (i : Int) < 3 := by omega
        have H3 := sec h3
        clear hTi h3
        go_wp2_with (go_at_call 35; refine Calls.mono HTi.out ?_; rintro e w3 ⟨rfl, d3, k3, kt3⟩)
        go_roundg (gk - 1)
        case rel => exact ⟨i + 1, by go_num, by omega, by have := H3.out; omega, d3, kt3 v _ _ hpq (by decide) bw, by rw [HG.out] at k3; exact Below.trans gw k3⟩
        case measure => have := H3.out; omega
      · obtain rfl : i = 3 := by omega
        clear h3 hik
        go_wp2_with (go_at_call 36; refine Calls.mono (HDn.out _ _ _ dw) ?_; rintro e w4 ⟨rfl, g4⟩)
        go_ret2
        exact ⟨rfl, hg0.trans (gw.trans g4)⟩

set_option maxHeartbeats 8000000 in
theorem rstBody_any (at_ : Int) (s : Stp) (A : Option Addr) (c : Nat) (B : Option Addr) (d : Nat) (w : World) (hz : StSz 1099511627776 s) :
    Calls Tryd.prog 28 #[.int .i64 at_, .agg (stepA s A c B d)] w fun e w' => e = .returned (.tuple #[.string (bs (bodyR at_ s).1), .int .i64 (bodyR at_ s).2]) ∧ Gr w w' := by
  obtain ⟨wa, hwa⟩ : ∃ x, x = w.alloc (.cells (stepA s A c B d) 37) := ⟨_, rfl⟩
  have hb : Blk wa w.heap.size 37 (stepA s A c B d) := by rw [hwa]; exact Blk.new w _ _
  have hg0 : Gr w wa := by rw [hwa]; exact (Gr.refl w).alloc _
  obtain ⟨p, hp⟩ : ∃ p, p = w.heap.size := ⟨_, rfl⟩
  rw [← hp] at hb
  obtain ⟨R, hRR⟩ : ∃ R, R = bodyR at_ s := ⟨_, rfl⟩
  rw [← hRR]
  have HRR := sec hRR
  clear hRR
  obtain ⟨r, o, n, who, seals⟩ := s
  have hr := hz.r
  have ho := hz.o
  have hn := hz.n
  simp only at hr ho hn
  have HT1 := sec (fun w => text_any r w (by omega))
  have HT2 := sec (fun w => text_any o w (by omega))
  have HT3 := sec (fun w => text_any n w (by omega))
  have HN := sec (fun w => number_any at_ w)
  unfold stepA at hwa hb
  unfold stepA
  simp only at hwa hb ⊢
  have HB := sec hb
  have hb0 : wa.cell? ⟨p, 0, none⟩ = some (.string (bs r)) := hb.cell 0
  have hb1 : wa.cell? ⟨p, 1, none⟩ = some (.string (bs o)) := hb.cell 1
  have hb2 : wa.cell? ⟨p, 2, none⟩ = some (.string (bs n)) := hb.cell 2
  clear hb hz
  by_cases hr : at_ < 0 ∨ 199 < at_
  · have HR : Sec (R = ([], 3)) := sec (by rw [HRR.out]; unfold bodyR; rw [if_pos hr])
    by_cases h0 : at_ < 0
    · have q0 : decide (at_ < 0) = true := decide_eq_true h0
      clear hr
      go_enter Tryd.func28, Tryd.ntmps28
      go_wp2_with (first | (rw [← hwa, ← hp]; clear hwa hp; go_wp2_with fail))
      go_ret2
      exact ⟨by rw [HR.out]; rfl, hg0⟩
    · have q0 : decide (at_ < 0) = false := decide_eq_false h0
      have q1 : decide (199 < at_) = true := decide_eq_true (by omega)
      clear hr
      go_enter Tryd.func28, Tryd.ntmps28
      go_wp2_with (first | (rw [← hwa, ← hp]; clear hwa hp; go_wp2_with fail))
      go_ret2
      exact ⟨by rw [HR.out]; rfl, hg0⟩
  · have q0 : decide (at_ < 0) = false := decide_eq_false (by omega)
    have q1 : decide (199 < at_) = false := decide_eq_false (by omega)
    have HR1 : Sec (R = if 4096 < r.length ∨ 4096 < o.length ∨ 4096 < n.length then ([], 1) else (numS at_ ++ txt r ++ txt o ++ txt n, 0)) := sec (by rw [HRR.out]; unfold bodyR; rw [if_neg hr])
    have hnl : (numS at_).length ≤ 9 := by rw [numS_in (by omega) (by omega)]; exact num_len9 (by omega)
    by_cases h4 : 4096 < r.length ∨ 4096 < o.length ∨ 4096 < n.length
    · have HR : Sec (R = ([], 1)) := sec (by rw [HR1.out, if_pos h4])
      clear hnl HT1 HT2 HT3 HN
      by_cases g1 : 4096 < r.length
      · have t1 : (4096 : Int) < (r.length : Int) := by omega
        clear h4 hr
        go_enter Tryd.func28, Tryd.ntmps28
        go_wp2_with (first | (rw [← hwa, ← hp]; clear hwa hp; go_wp2_with fail))
        go_ret2
        exact ⟨by rw [HR.out]; rfl, hg0⟩
      · have t1 : ¬ (4096 : Int) < (r.length : Int) := by omega
        by_cases g2 : 4096 < o.length
        · have t2 : (4096 : Int) < (o.length : Int) := by omega
          clear h4 hr
          go_enter Tryd.func28, Tryd.ntmps28
          go_wp2_with (first | (rw [← hwa, ← hp]; clear hwa hp; go_wp2_with fail))
          go_ret2
          exact ⟨by rw [HR.out]; rfl, hg0⟩
        · have t2 : ¬ (4096 : Int) < (o.length : Int) := by omega
          have t3 : (4096 : Int) < (n.length : Int) := by omega
          clear h4 hr
          go_enter Tryd.func28, Tryd.ntmps28
          go_wp2_with (first | (rw [← hwa, ← hp]; clear hwa hp; go_wp2_with fail))
          go_ret2
          exact ⟨by rw [HR.out]; rfl, hg0⟩
    · have HR : Sec (R = (numS at_ ++ txt r ++ txt o ++ txt n, 0)) := sec (by rw [HR1.out, if_neg h4])
      have t1 : ¬ (4096 : Int) < (r.length : Int) := by omega
      have t2 : ¬ (4096 : Int) < (o.length : Int) := by omega
      have t3 : ¬ (4096 : Int) < (n.length : Int) := by omega
      have l1 := txt_len r (by omega)
      have l2 := txt_len o (by omega)
      have l3 := txt_len n (by omega)
      obtain ⟨N, hN⟩ : ∃ x, x = numS at_ := ⟨_, rfl⟩
      rw [← hN] at hnl HN HR
      obtain ⟨x1, hx1⟩ : ∃ x, x = txt r := ⟨_, rfl⟩
      rw [← hx1] at l1 HT1 HR
      obtain ⟨x2, hx2⟩ : ∃ x, x = txt o := ⟨_, rfl⟩
      rw [← hx2] at l2 HT2 HR
      obtain ⟨x3, hx3⟩ : ∃ x, x = txt n := ⟨_, rfl⟩
      rw [← hx3] at l3 HT3 HR
      have k1 : ¬ 9223372036854775807 < N.length + x1.length := by omega
      have k2 : ¬ 9223372036854775807 < N.length + x1.length + x2.length := by omega
      have k3 : ¬ 9223372036854775807 < N.length + x1.length + x2.length + x3.length := by omega
      have k4 : ¬ 9223372036854775807 < N.length + (x1.length + x2.length) := by omega
      have k5 : ¬ 9223372036854775807 < N.length + (x1.length + x2.length) + x3.length := by omega
      have k6 : ¬ 9223372036854775807 < N.length + (x1.length + (x2.length + x3.length)) := by omega
      clear hN hx1 hx2 hx3 l1 l2 l3 hnl h4 hr HRR HR1
      go_enter Tryd.func28, Tryd.ntmps28
      go_wp2_with (first | (rw [← hwa, ← hp]; clear hwa hp; go_wp2_with fail))
      have HSK : Sec (∀ w', Gr wa w' → w'.cell? ⟨p, 0, none⟩ = some (.string (bs r)) ∧ w'.cell? ⟨p, 1, none⟩ = some (.string (bs o)) ∧ w'.cell? ⟨p, 2, none⟩ = some (.string (bs n)) ∧ Gr wa w') := sec (fun w' g => ⟨(HB.out.gr g).cell 0, (HB.out.gr g).cell 1, (HB.out.gr g).cell 2, g⟩)
      have gd : Gr wa wa.drew := (Gr.refl _).drew
      go_region_held3 (fun w' => w'.cell? ⟨p, 0, none⟩ = some (.string (bs r)) ∧ w'.cell? ⟨p, 1, none⟩ = some (.string (bs o)) ∧ w'.cell? ⟨p, 2, none⟩ = some (.string (bs n)) ∧ Gr wa w')
        (first | with_reducible assumption | with_reducible exact HSK.out _ gd | with_reducible exact HSK.out _ G1 | with_reducible exact HSK.out _ G2 | with_reducible exact HSK.out _ G3 | with_reducible exact HSK.out _ G4 | fail)
        (first
          | (go_at_call 46; (with_reducible refine Calls.mono (HN.out _) ?_); rintro e w1 ⟨rfl, g1⟩; have G1 : Gr wa w1 := Gr.trans gd g1)
          | (go_at_call 47; (with_reducible refine Calls.mono (HT1.out w1) ?_); rintro e w2 ⟨rfl, g2⟩; have G2 : Gr wa w2 := Gr.trans G1 g2)
          | (go_at_call 47; (with_reducible refine Calls.mono (HT2.out w2) ?_); rintro e w3 ⟨rfl, g3⟩; have G3 : Gr wa w3 := Gr.trans G2 g3)
          | (go_at_call 47; (with_reducible refine Calls.mono (HT3.out w3) ?_); rintro e w4 ⟨rfl, g4⟩; have G4 : Gr wa w4 := Gr.trans G3 g4)
          | fail)
      all_goals
        go_wp2_with fail
        go_ret2
        exact ⟨by rw [HR.out]; simp only [List.append_assoc]; rfl, hg0.trans G4⟩
end Go.Proofs.YtmmpekdbknclcaaDoor

namespace Go.Proofs.YtmmpekdbknclcaaDoor
open Go.RowKit
attribute [local go_sem] Oper.semAt_some
set_option maxRecDepth 100000
set_option linter.unusedVariables false
theorem idx_split (c : UInt8) : ∀ l : List UInt8, (Lib.indexByte l c = -1 ∧ ∀ x ∈ l, x ≠ c) ∨ ∃ x t, l = x ++ c :: t ∧ (∀ y ∈ x, y ≠ c) ∧ Lib.indexByte l c = (x.length : Int)
  | [] => .inl ⟨rfl, by simp⟩
  | b :: r => by
    by_cases hb : b = c
    · subst hb
      refine .inr ⟨[], r, rfl, by simp, ?_⟩
      unfold Lib.indexByte
      rw [if_pos (by simp)]; rfl
    · rcases idx_split c r with ⟨h1, h2⟩ | ⟨x, t, h1, h2, h3⟩
      · refine .inl ⟨?_, ?_⟩
        · unfold Lib.indexByte
          rw [if_neg (by simpa using hb), h1]; rfl
        · intro y hy
          rcases List.mem_cons.1 hy with rfl | hy
          · exact hb
          · exact h2 y hy
      · refine .inr ⟨b :: x, t, by rw [h1]; rfl, ?_, ?_⟩
        · intro y hy
          rcases List.mem_cons.1 hy with rfl | hy
          · exact hb
          · exact h2 y hy
        · unfold Lib.indexByte
          rw [if_neg (by simpa using hb), h3, if_neg (by rw [beq_iff_eq]; omega)]
          simp

set_option maxHeartbeats 1000000 in
theorem indexByte_any (s : List UInt8) (w : World) : Calls Tryd.prog 78 #[.string (bs s), .int .u8 47] w fun e w' => e = .returned (.int .i64 (Lib.indexByte s 47)) ∧ w = w' := by
  go_enter Tryd.func78, Tryd.ntmps78
  go_wp2
  rw [run_callFunc_extern Tryd.func82 (by kernel_rfl) (by kernel_rfl) (by kernel_rfl) (e := Extern.BytealgIndexByte.indexByte) (by kernel_rfl), Lib.run_indexByteString]
  simp only [Result.andThen]
  rw [Oper.upon_value]
  go_wp2
  go_ret
  exact ⟨by rw [bs_data]; rfl, rfl⟩
set_option maxHeartbeats 1000000 in
theorem slIndex_any (s : List UInt8) (w : World) : Calls Tryd.prog 74 #[.string (bs s), .string (bs [47])] w fun e w' => e = .returned (.int .i64 (Lib.indexByte s 47)) ∧ w = w' := by
  have HI := sec (indexByte_any s)
  by_cases h : s = [47]
  · subst h
    clear HI
    go_enter Tryd.func74, Tryd.ntmps74
    go_wp2
    go_ret
    exact ⟨rfl, rfl⟩
  · have q : (([47] : List UInt8) == s) = false := by rw [beq_eq_false_iff_ne]; exact fun e => h e.symm
    clear h
    go_enter Tryd.func74, Tryd.ntmps74
    go_wp2_with (go_at_call 78; refine Calls.mono (HI.out _) ?_; rintro e w' ⟨rfl, rfl⟩)
    all_goals (go_ret; exact ⟨rfl, rfl⟩)
set_option maxHeartbeats 1000000 in
theorem sIndex_any (s : List UInt8) (w : World) : Calls Tryd.prog 67 #[.string (bs s), .string (bs [47])] w fun e w' => e = .returned (.int .i64 (Lib.indexByte s 47)) ∧ w = w' := by
  have HI := sec (slIndex_any s)
  go_enter Tryd.func67, Tryd.ntmps67
  go_wp2_with (go_at_call 74; refine Calls.mono (HI.out _) ?_; rintro e w' ⟨rfl, rfl⟩)
  go_ret
  exact ⟨rfl, rfl⟩
end Go.Proofs.YtmmpekdbknclcaaDoor

namespace Go.Proofs.YtmmpekdbknclcaaDoor
open Go.RowKit
attribute [local go_sem] Oper.semAt_some
set_option maxRecDepth 100000
set_option linter.unusedVariables false
/-- the length of the string in a cell -/
def strLen (w : World) (a : Addr) : Nat := match w.cell? a with | some (.string b) => b.size | _ => 0
theorem strLen_of {w : World} {a : Addr} {l : List UInt8} (h : w.cell? a = some (.string (bs l))) : strLen w a = l.length := by
  unfold strLen; rw [h]; exact bs_size l
set_option maxHeartbeats 4000000 in
theorem splitIt_any (n l Bs Bp Bv n₀ : Nat) (J : List UInt8 → World → Prop) (Jx : World → Prop) (hJ : ∀ z W W', J z W → W.grownBy W' (some Bs) → J z W')
    (hY : ∀ x t W1, J (x ++ 47 :: t) W1 → (∀ c ∈ x, c ≠ 47) → x.length ≤ 1099511627776 → YieldAt Fence.wide (n - 1) Tryd.prog l #[.string (bs x)] W1 fun e W' =>
      (e = .returned (.bool true) ∧ J t W' ∧ Below n₀ W1 W') ∨ (e = .returned (.bool false) ∧ Jx W'))
    (hs : Bs < n₀) (hp : Bp < n₀) (hv : Bv < n₀) (hne1 : Bp ≠ Bs) (hne2 : Bv ≠ Bs) (s : List UInt8) (W : World)
    (hBs : Blk W Bs 9 #[.string (bs s)]) (hBp : Blk W Bp 9 #[.string (bs [47])]) (hBv : Blk W Bv 3 #[.int .i64 0]) (h0 : J (s ++ [47]) W) (hlen : s.length ≤ 1099511627776) :
    CallsIn Fence.wide n Tryd.prog 65 #[.func (.yield l) #[] #[], .pointer (some ⟨Bp, 0, none⟩), .pointer (some ⟨Bs, 0, none⟩), .pointer (some ⟨Bv, 0, none⟩)] W fun e W' =>
      (∃ v, e = .returned v) ∧ (J [] W' ∨ Jx W') := by
  have HI := sec sIndex_any
  have HJ := sec hJ
  have HY := sec hY
  clear hJ hY
  refine callsIn_of_wp Tryd.func65 rfl trivial ?_ rfl
  simp only [Tryd.ntmps65, List.size_toArray, List.length_cons, List.length_nil, Nat.reduceAdd, Nat.reduceSub, Array.replicate_succ, Array.replicate_zero, List.push_toArray, List.append_toArray, List.nil_append, List.cons_append]
  have p0 : W.cell? ⟨Bp, 0, none⟩ = some (.string (bs [47])) := hBp.cell 0
  gi_wp2
  gi_loopw [7, 8] (fun _ _ wr => ∃ r : List UInt8, Blk wr Bs 9 #[.string (bs r)] ∧ Blk wr Bp 9 #[.string (bs [47])] ∧ Blk wr Bv 3 #[.int .i64 0] ∧ J (r ++ [47]) wr ∧ r.length ≤ 1099511627776)
    (fun _ _ wr => strLen wr ⟨Bs, 0, none⟩)
  case atStart => exact ⟨s, hBs, hBp, hBv, h0, hlen⟩
  case round =>
    clear p0 hBs hBp hBv h0 hlen
    obtain ⟨r, bS, bP, bV, hJr, hlen⟩ := hrel
    have c0 : wr.cell? ⟨Bs, 0, none⟩ = some (.string (bs r)) := bS.cell 0
    have c1 : wr.cell? ⟨Bp, 0, none⟩ = some (.string (bs [47])) := bP.cell 0
    have c2 : wr.cell? ⟨Bv, 0, none⟩ = some (.int .i64 0) := bV.cell 0
    rcases idx_split 47 r with ⟨hi, hx⟩ | ⟨x, t, rfl, hx, hi⟩
    · have HII : Sec (∀ w, Calls Tryd.prog 67 #[.string (bs r), .string (bs [47])] w fun e w' => e = .returned (.int .i64 (-1)) ∧ w = w') := sec (fun w => by have := HI.out r w; rwa [hi] at this)
      obtain ⟨fn, tmps, assign, body, hy, hR⟩ := HY.out r [] wr hJr hx hlen
      have HR := sec hR
      clear hi hx hJr hR
      gi_wp2_with (refine ⟨trivial, fun h => absurd h (by decide), ?_⟩; refine CallsIn.mono (callsIn_wide.2 (HII.out _)) ?_; rintro e w' ⟨rfl, rfl⟩)
      refine ⟨fun h => absurd h (by decide), RoundIn.mono HR.out ?_⟩
      rintro e W3 (⟨rfl, hJ3, hk3⟩ | ⟨rfl, hJx3⟩)
      · gi_wp2
        go_end0
        exact ⟨⟨_, rfl⟩, .inl hJ3⟩
      · gi_wp2
        go_end0
        exact ⟨⟨_, rfl⟩, .inr hJx3⟩
    · obtain ⟨k, hk⟩ : ∃ k, k = x.length := ⟨_, rfl⟩
      rw [← hk] at hi
      have HII : Sec (∀ w, Calls Tryd.prog 67 #[.string (bs (x ++ 47 :: t)), .string (bs [47])] w fun e w' => e = .returned (.int .i64 (k : Int)) ∧ w = w') := sec (fun w => by have := HI.out (x ++ 47 :: t) w; rwa [hi] at this)
      have hxl : x.length ≤ 1099511627776 := by rw [List.length_append, List.length_cons] at hlen; omega
      have htl : t.length < (x ++ 47 :: t).length := by rw [List.length_append, List.length_cons]; omega
      have hkl : k + 1 ≤ (x ++ 47 :: t).length := by rw [List.length_append, List.length_cons]; omega
      have e2 : x ++ 47 :: t ++ [47] = x ++ 47 :: (t ++ [47]) := by simp
      rw [e2] at hJr
      obtain ⟨fn, tmps, assign, body, hy, hR⟩ := HY.out x (t ++ [47]) wr hJr hx hxl
      have hT : (x ++ 47 :: t).take k = x := by rw [hk]; simp
      have hD : (x ++ 47 :: t).drop (k + 1) = t := by
        rw [hk, List.drop_append]
        have e3 : x.length + 1 - x.length = 1 := by omega
        rw [e3, List.drop_eq_nil_of_le (by omega)]; rfl
      obtain ⟨rr, hrr⟩ : ∃ rr, rr = x ++ 47 :: t := ⟨_, rfl⟩
      rw [← hrr] at HII bS c0 hlen htl hkl hT hD
      rw [← hT] at hy
      have hk0 : (k : Int) ≤ (rr.length : Int) := by omega
      have hk1 : (k : Int) + 1 ≤ (rr.length : Int) := by omega
      have HR := sec hR
      have HD := sec hD
      have HTL := sec htl
      have c0S := sec c0
      clear hi hx hJr hR hk hT hD hrr e2 hxl htl
      gi_wp2_with (refine ⟨trivial, fun h => absurd h (by decide), ?_⟩; refine CallsIn.mono (callsIn_wide.2 (HII.out _)) ?_; rintro e w' ⟨rfl, rfl⟩)
      refine ⟨fun h => absurd h (by decide), RoundIn.mono HR.out ?_⟩
      rintro e W3 (⟨rfl, hJ3, hk3⟩ | ⟨rfl, hJx3⟩)
      · have bS3 := bS.below hk3 hs
        have bP3 := bP.below hk3 hp
        have bV3 := bV.below hk3 hv
        have d0 : W3.cell? ⟨Bs, 0, none⟩ = some (.string (bs rr)) := bS3.cell 0
        have d1 : W3.cell? ⟨Bp, 0, none⟩ = some (.string (bs [47])) := bP3.cell 0
        have d2 : W3.frozen? ⟨Bs, 0, none⟩ = false := bS3.frozen 0
        have hJ4 := HJ.out _ _ _ hJ3 (grown_setCell W3 ⟨Bs, 0, none⟩ (.string (bs t)))
        have bS4 := bS3.set_ 0 (.string (bs t))
        have bP4 := bP3.far (p := ⟨Bs, 0, none⟩) hne1 (.string (bs t))
        have bV4 := bV3.far (p := ⟨Bs, 0, none⟩) hne2 (.string (bs t))
        have HQ := sec (And.intro hJ4 (And.intro bS4 (And.intro bP4 bV4)))
        clear hJ3 hk3 bS3 bP3 bV3 hJ4 bS4 bP4 bV4 bS bP bV c0 c1 c2 hy
        gi_wp2
        rw [HD.out]
        go_roundw
        case rel =>
          obtain ⟨h1, h2, h3, h4⟩ := HQ.out
          exact ⟨t, h2, h3, h4, h1, by have := HTL.out; omega⟩
        case measure =>
          have h5 := HQ.out.2.1.cell 0
          have h6 := strLen_of (a := ⟨Bs, 0, none⟩) h5
          have h7 := strLen_of (a := ⟨Bs, 0, none⟩) c0S.out
          have h8 := HTL.out
          rw [h6, h7]
          omega
      · gi_wp2
        refine bodyPost_ret (results_none rfl _ _ _) rfl ?_
        exact ⟨⟨_, rfl⟩, .inr hJx3⟩

theorem enters_fn {f : FuncId} {fn : Func} {c : Code} (hf : Tryd.prog.funcs[f]? = some fn) (hname : (fn.name == "runtime.NumGoroutine") = false) (hb : fn.body = some c) : ∀ args w, (callFunc f args).run Tryd.prog w = .ok (.enter f args) w := by
  intro args w
  have h1 : fn.name ≠ "runtime.NumGoroutine" := by simpa using hname
  simp [callFunc, hf, h1, hb, mark]
/-- how the body of a round may be left: it goes on, and nothing old has turned; or it returns, and one block of the caller's has turned -/
def splitPost (B : Nat) (I Ix : World → Prop) (W : World) : Exit → Act → World → Prop
  | .normal, _, W' => Gr W W' ∧ I W'
  | .ret, _, W' => ∃ r, r < B ∧ W.grownBy W' (some r) ∧ Ix W'
  | _, _, _ => False

/-- 'for piece := range strings.SplitSeq(s, "/") { .. }' -/
theorem wpIn_rangeSplit {g : Operand} {ps : Array Tmp} {assign body : Code} {Q : Exit → Act → World → Prop} {a : Act} {w : World} {n Bs Bp Bv : Nat}
    (hg : a.eval g = .func (.func 65) #[] #[.pointer (some ⟨Bp, 0, none⟩), .pointer (some ⟨Bs, 0, none⟩), .pointer (some ⟨Bv, 0, none⟩)]) (hps : ps.size = 1)
    (s : List UInt8) (hBs : Blk w Bs 9 #[.string (bs s)]) (hBp : Blk w Bp 9 #[.string (bs [47])]) (hBv : Blk w Bv 3 #[.int .i64 0]) (hne1 : Bp ≠ Bs) (hne2 : Bv ≠ Bs) (hlen : s.length ≤ 1099511627776)
    (I : List UInt8 → World → Prop) (Ix : World → Prop)
    (hI : ∀ z W W' r, I z W → W.grownBy W' r → (∀ k, r = some k → k = Bs ∨ w.heap.size ≤ k) → I z W')
    (hIx : ∀ W W' r, Ix W → W.grownBy W' r → (∀ k, r = some k → w.heap.size ≤ k) → Ix W')
    (h0 : I (s ++ [47]) w) (a₁ : List UInt8 → Act)
    (hassign : ∀ (l : Nat) (x : List UInt8) (W : World) (K : Act → World → Prop), K (a₁ x) W →
      assign.wpIn (Fence.wide.inRound l) (n - 1 - 1) Tryd.prog (Exit.then K (fun _ _ _ => False)) { tmps := (ps.zip #[.string (bs x)]).foldl (fun t (p, v) => t.setIfInBounds p v) a.tmps, defers := [] } W)
    (hbody : ∀ (l : Nat) (x t : List UInt8) (W : World), I (x ++ 47 :: t) W → (∀ c ∈ x, c ≠ 47) → x.length ≤ 1099511627776 → body.wpIn (Fence.wide.inRound l) (n - 1 - 1) Tryd.prog (splitPost w.heap.size (I t) Ix W) (a₁ x) W)
    (hdone : ∀ (D : Nat) (W : World), w.heap.size ≤ D → I [] W → W.heap[D]? = some (.deferred (some [])) → Q .normal { a with defers := { target := .collected D, args := #[] } :: a.defers } W)
    (hstop : ∀ (D : Nat) (W : World), w.heap.size ≤ D → Ix W → W.heap[D]? = some (.deferred (some [])) → Code.ret.wpIn Fence.wide n Tryd.prog Q { a with defers := { target := .collected D, args := #[] } :: a.defers } W) :
    (Code.rangeFunc g ps assign body).wpIn Fence.wide n Tryd.prog Q a w := by
  refine wpIn_rangeFunc ?_
  intro fn hfn
  have hro : Fence.wide.round = none := rfl
  rw [hro]
  obtain ⟨rec, hrec⟩ : ∃ rec : LoopState → Option Code → Loop, rec = fun st pe => { state := st, pending := pe, fn, tmps := a.tmps, params := ps, assign, body, defers := w.heap.size } := ⟨_, rfl⟩
  obtain ⟨W1, hW1⟩ : ∃ W1, (w.alloc (.deferred (some []))).alloc (.loop (rec .ready none)) = W1 := ⟨_, rfl⟩
  have hL1 : W1.heap[w.heap.size + 1]? = some (.loop (rec .ready none)) := by
    rw [← hW1]; have := World.alloc_heap_new (w.alloc (.deferred (some []))) (.loop (rec .ready none)); rwa [World.size_alloc] at this
  have hK1 : W1.heap[w.heap.size]? = some (.deferred (some [])) := by
    rw [← hW1]; exact (Below.heap_alloc _ _ _ (by simp)).trans (World.alloc_heap_new w _)
  have g1 : Gr w W1 := by rw [← hW1]; exact ((Gr.refl w).alloc _).alloc _
  have hI1 : I (s ++ [47]) W1 := hI _ _ _ none h0 ⟨g1.below.os, g1.below.tape, g1.below.output, g1.below.size, fun k hk _ => g1.below.block k hk⟩ (fun k e => by cases e)
  refine ⟨w.heap.size + 1, [{ target := .collected w.heap.size, args := #[] }], W1, { target := .fn (.func 65) #[.pointer (some ⟨Bp, 0, none⟩), .pointer (some ⟨Bs, 0, none⟩), .pointer (some ⟨Bv, 0, none⟩)], args := #[.func (.yield (w.heap.size + 1)) #[] #[]] }, W1, 65,
    #[.func (.yield (w.heap.size + 1)) #[] #[]] ++ #[.pointer (some ⟨Bp, 0, none⟩), .pointer (some ⟨Bs, 0, none⟩), .pointer (some ⟨Bv, 0, none⟩)], W1, ?_, ?_, ?_, ?_, fun h => absurd h (by decide), ?_⟩
  · rw [← hW1, hrec]; exact run_enterLoop_outer _ _ _ _ _
  · simp only [resolve, hg]
    simp [go_sem]
  · intro f' hf'; trivial
  · have eg : ∀ args w, (callFunc 65 args).run Tryd.prog w = .ok (.enter 65 args) w := enters_fn Tryd.func65 (by kernel_rfl) rfl
    simp [invoke, go_sem, eg]
  · refine (splitIt_any (n - 1) (w.heap.size + 1) Bs Bp Bv w.heap.size
      (fun z W => I z W ∧ W.heap[w.heap.size + 1]? = some (.loop (rec .ready none)) ∧ W.heap[w.heap.size]? = some (.deferred (some [])))
      (fun W => Ix W ∧ W.heap[w.heap.size + 1]? = some (.loop (rec .done (some .ret))) ∧ W.heap[w.heap.size]? = some (.deferred (some [])))
      (fun z W W' h hg' => ⟨hI _ _ _ _ h.1 hg' (fun k e => .inl (by cases e; rfl)), (hg'.block _ (Array.getElem?_eq_some_iff.1 h.2.1).1 (fun e => by have := hBs.lt; injection e with e; omega)).trans h.2.1, (hg'.block _ (Array.getElem?_eq_some_iff.1 h.2.2).1 (fun e => by have := hBs.lt; injection e with e; omega)).trans h.2.2⟩)
      ?_ hBs.lt hBp.lt hBv.lt hne1 hne2 s W1 (hBs.gr g1) (hBp.gr g1) (hBv.gr g1) ⟨hI1, hL1, hK1⟩ hlen).mono ?_
    · rintro x t W ⟨hi, hl, hk⟩ hx hxl
      have hlt : w.heap.size + 1 < W.heap.size := (Array.getElem?_eq_some_iff.1 hl).1
      have hy := run_yield (P := Tryd.prog) (args := #[.string (bs x)]) hl (by rw [hrec]; exact hps.symm)
      rw [hrec] at hy
      refine ⟨fn, _, assign, body, hy, roundIn_of_wpIn hfn (hassign _ x W _ ⟨_, run_beginRound hl (by rw [hrec]), ?_⟩)⟩
      have hl2 : (W.putObj (w.heap.size + 1) (.loop { rec .ready none with state := .busy })).heap[w.heap.size + 1]? = some (.loop { rec .ready none with state := .busy }) := World.putObj_heap_same hlt
      have hk2 : (W.putObj (w.heap.size + 1) (.loop { rec .ready none with state := .busy })).heap[w.heap.size]? = some (.deferred (some [])) := (World.putObj_heap_other (by omega)).trans hk
      have hg2 := grownBy_putObj' W (w.heap.size + 1) (.loop { rec .ready none with state := .busy })
      refine wpIn_mono (hbody _ x t _ (hI _ _ _ _ hi hg2 (fun k e => .inr (by cases e; omega))) hx hxl) ?_
      rintro e a3 W3 hp
      cases e with
      | normal =>
        obtain ⟨g3, hi3⟩ := hp
        have hl3 := (g3.below.block _ (Array.getElem?_eq_some_iff.1 hl2).1).trans hl2
        have hk3 := (g3.below.block _ (Array.getElem?_eq_some_iff.1 hk2).1).trans hk2
        have hr := run_endRound (P := Tryd.prog) none hl3
        have hg3 := grownBy_putObj' W3 (w.heap.size + 1) (.loop (rec .ready none))
        rw [hrec] at hr
        refine ⟨_, _, hr, .inl ⟨rfl, ⟨hI _ _ _ _ hi3 (grownBy_putObj' W3 (w.heap.size + 1) _) (fun k e => .inr (by cases e; omega)), ?_, ?_⟩, ?_⟩⟩
        · rw [hrec]; exact World.putObj_heap_same (Array.getElem?_eq_some_iff.1 hl3).1
        · exact (World.putObj_heap_other (by omega)).trans hk3
        · have b2 : Below w.heap.size W (W.putObj (w.heap.size + 1) (.loop { rec .ready none with state := .busy })) := (Below.refl _ W).grown hg2 (by omega) (fun k e => by cases e; omega)
          have b3 : Below w.heap.size (W.putObj (w.heap.size + 1) (.loop { rec .ready none with state := .busy })) W3 := Below.mono g3 (Nat.le_trans (Nat.le_of_lt (Nat.lt_of_succ_lt hlt)) hg2.size)
          have b4 := (Below.refl w.heap.size W3).grown (grownBy_putObj' W3 (w.heap.size + 1) (.loop (rec .ready none))) (by have := (Array.getElem?_eq_some_iff.1 hl3).1; omega) (fun k e => by cases e; omega)
          rw [hrec] at b4
          exact (b2.trans b3).trans b4
      | ret =>
        obtain ⟨r, hr0, g3, hi3⟩ := hp
        have hl3 := (g3.block _ (Array.getElem?_eq_some_iff.1 hl2).1 (fun e => by injection e with e; omega)).trans hl2
        have hk3 := (g3.block _ (Array.getElem?_eq_some_iff.1 hk2).1 (fun e => by injection e with e; omega)).trans hk2
        have hr := run_endRound (P := Tryd.prog) (some .ret) hl3
        rw [hrec] at hr
        refine ⟨_, _, hr, .inr ⟨rfl, hIx _ _ _ hi3 (grownBy_putObj' W3 (w.heap.size + 1) _) (fun k e => by cases e; omega), ?_, ?_⟩⟩
        · rw [hrec]; exact World.putObj_heap_same (Array.getElem?_eq_some_iff.1 hl3).1
        · exact (World.putObj_heap_other (by omega)).trans hk3
      | exit id => exact hp.elim
      | goto t => exact hp.elim
      | panic ch => exact hp.elim
      | outgrown => exact hp.elim
    · rintro e W2 ⟨⟨v, rfl⟩, (⟨hi, hl, hk⟩ | ⟨hi, hl, hk⟩)⟩
      · exact ⟨none, _, by have := run_endLoop (P := Tryd.prog) hl (by rw [hrec]; simp); rw [hrec] at this; exact this, hdone _ _ (Nat.le_refl _) (hI _ _ _ _ hi (grownBy_putObj' W2 (w.heap.size + 1) _) (fun k e => .inr (by cases e; omega))) ((World.putObj_heap_other (by omega)).trans hk)⟩
      · exact ⟨some .ret, _, by have := run_endLoop (P := Tryd.prog) hl (by rw [hrec]; simp); rw [hrec] at this; exact this, hstop _ _ (Nat.le_refl _) (hIx _ _ _ hi (grownBy_putObj' W2 (w.heap.size + 1) _) (fun k e => by cases e; omega)) ((World.putObj_heap_other (by omega)).trans hk)⟩
end Go.Proofs.YtmmpekdbknclcaaDoor

namespace Go.Proofs.YtmmpekdbknclcaaDoor
open Go.RowKit
set_option linter.unusedVariables false
/-- function g asks p of a rune, turns nothing and lays new blocks alone -/
def Asks (g : Nat) (p : Nat → Bool) : Prop := ∀ (R : Nat) (w : World), R ≤ 2147483647 → Calls Tryd.prog g #[.int .i32 (R : Int)] w fun e w' => e = .returned (.bool (p R)) ∧ Gr w w'

def idxV (found : Bool) (k : Int) : Prop := if found then 0 ≤ k else k = -1

set_option maxRecDepth 100000 in
set_option maxHeartbeats 2000000 in
theorem indexFunc_any (g : Nat) (p : Nat → Bool) (hp : Asks g p) (hhi : ∀ R, 128 ≤ R → p R = true) (eg : ∀ args w, (callFunc g args).run Tryd.prog w = .ok (.enter g args) w) (s : List UInt8) (w : World) (hs : s.length ≤ 4611686018427387904) :
    Calls Tryd.prog 68 #[.string (bs s), .func (.func g) #[] #[], .bool true] w fun e w' => (∃ k : Int, e = .returned (.int .i64 k) ∧ idxV (s.any fun c => p c.toNat) k) ∧ Gr w w' := by
  go_enter Tryd.func68, Tryd.ntmps68
  go_wp2
  go_loopw [7, 8] (fun _ _ wx => ∃ pos : Nat, wx.heap[w.heap.size]? = some (.stringIter (bs s) pos) ∧ Gr w wx ∧ Sec ((s.take pos).any (fun c => p c.toNat) = false) ∧ pos ≤ s.length)
    (fun _ _ wx => s.length + 1 - wx.iterPos w.heap.size)
  case atStart => exact ⟨0, World.iter_heap w (bs s) 0, (Below.refl _ w).alloc (Nat.le_refl _) _, sec rfl, Nat.zero_le _⟩
  case round =>
    obtain ⟨pos, hit, hg, HA, hle⟩ := hrel
    by_cases hps : pos < s.length
    · have hsz : pos < (bs s).size := by rw [bs_size]; exact hps
      have hnx : ∀ ty, (Instr.next (.pointer (some ⟨w.heap.size, 0, none⟩)) true ty).run Tryd.prog wr = _ := fun ty => Lib.run_next_any_at wr w.heap.size (bs s) pos ty hit hsz
      obtain ⟨c, hc⟩ : ∃ c, c = List.get s ⟨pos, hps⟩ := ⟨_, rfl⟩
      have hgc : (bs s)[pos]'hsz = c := (bs_get s pos hsz).trans hc.symm
      have hP : p (Utf8.decode (bs s) pos).1 = p c.toNat ∧ (p (Utf8.decode (bs s) pos).1 = false → (Utf8.decode (bs s) pos).2 = 1) := by
        by_cases hlo : c.toNat < 128
        · have := decode_ascii (bs s) pos hsz (by rw [hgc]; exact hlo)
          rw [this, hgc]
          exact ⟨rfl, fun _ => rfl⟩
        · have := (decode_high (bs s) pos hsz (by rw [hgc]; omega)).1
          rw [hhi _ this, hhi c.toNat (by omega)]
          exact ⟨rfl, fun h => by cases h⟩
      have hRle := decode_le (bs s) pos
      obtain ⟨R, hR⟩ : ∃ R, (Utf8.decode (bs s) pos).1 = R := ⟨_, rfl⟩
      obtain ⟨K, hK⟩ : ∃ K, (Utf8.decode (bs s) pos).2 = K := ⟨_, rfl⟩
      rw [hR, hK] at hnx
      rw [hR, hK] at hP
      rw [hR] at hRle
      have hit2 := Lib.iterAt_heap wr w.heap.size (bs s) pos (pos + K) hit
      have hg2 : Gr w (wr.iterAt w.heap.size (bs s) (pos + K)) := Lib.below_iterAt hg (Nat.le_refl _) (bs s) (pos + K)
      have hpos0 := hit
      obtain ⟨W, hW⟩ : ∃ W, wr.iterAt w.heap.size (bs s) (pos + K) = W := ⟨_, rfl⟩
      rw [hW] at hnx hit2 hg2
      have hcS := hp R W hRle
      have hmeas : wr.iterPos w.heap.size = pos := by unfold World.iterPos; rw [hit]
      have HANY : Sec ((s.take (pos + 1)).any (fun c => p c.toNat) = p R) := sec (by
        have h1 : (s.take (pos + 1)) = s.take pos ++ [c] := (List.take_succ_eq_append_getElem hps).trans (by rw [hc]; rfl)
        rw [h1, List.any_append, HA.out, hP.1]
        simp)
      have HTAKE : Sec (p R = true → s.any (fun c => p c.toNat) = true) := sec (fun h => by
        rw [← List.take_append_drop (pos + 1) s, List.any_append, HANY.out, h]; rfl)
      have HK := sec hP.2
      have HPS := sec hps
      have HIT := sec hit2
      have HME := sec hmeas
      have CS := sec hcS
      clear hgc hc hR hK hP hRle hW hpos0 hit2 hp hhi hit hmeas hcS
      cases hb : p R
      · rw [hb] at CS HANY
        have HK1 : Sec (K = 1) := sec (HK.out hb)
        clear HK HTAKE hb
        go_wp2_with (refine Calls.mono CS.out ?_; rintro e W' ⟨rfl, g1⟩)
        go_roundw
        case rel =>
          refine ⟨pos + 1, ?_, hg2.trans g1, HANY, HPS.out⟩
          rw [g1.below.block w.heap.size (by have := (Array.getElem?_eq_some_iff.1 HIT.out).1; exact this), HIT.out, HK1.out]
        case measure =>
          have h1 : W'.iterPos w.heap.size = pos + 1 := by
            unfold World.iterPos
            rw [g1.below.block w.heap.size (by have := (Array.getElem?_eq_some_iff.1 HIT.out).1; exact this), HIT.out, HK1.out]
          have h2 := HME.out
          have h3 := HPS.out
          omega
      · rw [hb] at CS
        have HT := sec (HTAKE.out hb)
        clear HK HTAKE hb
        go_wp2_with (refine Calls.mono CS.out ?_; rintro e W' ⟨rfl, g1⟩)
        go_ret
        exact ⟨⟨(pos : Int), rfl, by rw [HT.out]; show (0 : Int) ≤ pos; omega⟩, hg2.trans g1⟩
    · obtain rfl : pos = s.length := by omega
      have hsz : ¬ s.length < (bs s).size := by rw [bs_size]; omega
      have hnx : ∀ ty, (Instr.next (.pointer (some ⟨w.heap.size, 0, none⟩)) true ty).run Tryd.prog wr = _ := fun ty => Lib.run_next_end_at wr w.heap.size (bs s) s.length ty hit hsz
      have HAA : Sec (s.any (fun c => p c.toNat) = false) := sec (by have := HA.out; rwa [List.take_length] at this)
      clear hsz hps hp hhi
      go_wp2
      go_ret
      exact ⟨⟨-1, rfl, by rw [HAA.out]; rfl⟩, hg⟩

set_option maxRecDepth 100000 in
set_option maxHeartbeats 2000000 in
theorem containsFunc_any (g : Nat) (p : Nat → Bool) (hp : Asks g p) (hhi : ∀ R, 128 ≤ R → p R = true) (eg : ∀ args w, (callFunc g args).run Tryd.prog w = .ok (.enter g args) w) (s : List UInt8) (w : World) (hs : s.length ≤ 4611686018427387904) :
    Calls Tryd.prog 40 #[.string (bs s), .func (.func g) #[] #[]] w fun e w' => e = .returned (.bool (s.any fun c => p c.toNat)) ∧ Gr w w' := by
  have HI : Sec (∀ w, Calls Tryd.prog 56 #[.string (bs s), .func (.func g) #[] #[]] w fun e w' => (∃ k : Int, e = .returned (.int .i64 k) ∧ idxV (s.any fun c => p c.toNat) k) ∧ Gr w w') := sec (by
    intro w
    have HX := sec (fun w => indexFunc_any g p hp hhi eg s w hs)
    clear hp hhi eg
    go_enter Tryd.func56, Tryd.ntmps56
    go_wp2_with (go_at_call 68; refine Calls.mono (HX.out _) ?_; rintro e w1 ⟨⟨k, rfl, hk⟩, g1⟩)
    go_ret
    exact ⟨⟨k, rfl, hk⟩, g1⟩)
  clear hp hhi eg
  obtain ⟨B, hB⟩ : ∃ B, B = s.any fun c => p c.toNat := ⟨_, rfl⟩
  rw [← hB] at HI
  rw [← hB]
  clear hB
  cases B with
  | true =>
    go_enter Tryd.func40, Tryd.ntmps40
    go_wp2_with (go_at_call 56; refine Calls.mono (HI.out _) ?_; rintro e w1 ⟨⟨k, rfl, hk⟩, g1⟩; have hk' : 0 ≤ k := hk)
    go_ret
    exact ⟨by simp, g1⟩
  | false =>
    go_enter Tryd.func40, Tryd.ntmps40
    go_wp2_with (go_at_call 56; refine Calls.mono (HI.out _) ?_; rintro e w1 ⟨⟨k, rfl, hk⟩, g1⟩; obtain rfl : k = -1 := hk)
    go_ret
    exact ⟨rfl, g1⟩
end Go.Proofs.YtmmpekdbknclcaaDoor

namespace Go.Proofs.YtmmpekdbknclcaaDoor
open Go.RowKit
attribute [local go_sem] Oper.semAt_some
set_option maxRecDepth 100000
set_option linter.unusedVariables false
/-- the cases of a byte in a piece -/
theorem refc_cases (n : Nat) : (97 ≤ n ∧ n ≤ 122) ∨ (97 ≤ n ∧ ¬ n ≤ 122) ∨ (¬ 97 ≤ n ∧ 48 ≤ n ∧ n ≤ 57) ∨ (¬ 97 ≤ n ∧ 48 ≤ n ∧ ¬ n ≤ 57 ∧ n = 95) ∨ (¬ 97 ≤ n ∧ 48 ≤ n ∧ ¬ n ≤ 57 ∧ n ≠ 95) ∨ (¬ 97 ≤ n ∧ ¬ 48 ≤ n ∧ n = 45) ∨ (¬ 97 ≤ n ∧ ¬ 48 ≤ n ∧ n ≠ 45) := by omega
set_option maxHeartbeats 2000000 in
theorem notref_any : Asks 39 (fun n => !refC n) := by
  intro R w hR
  show Calls Tryd.prog 39 #[.int .i32 (R : Int)] w fun e w' => e = .returned (.bool (!refC R)) ∧ Gr w w'
  rcases refc_cases R with ⟨h1, h2⟩ | ⟨h1, h2⟩ | ⟨h1, h2, h3⟩ | ⟨h1, h2, h3, h4⟩ | ⟨h1, h2, h3, h4⟩ | ⟨h1, h2, h3⟩ | ⟨h1, h2, h3⟩
  · have HX : Sec (refC R = true) := sec (by simp [refC, h1, h2])
    have q1 : ¬ (R : Int) < 97 := by omega
    have q2 : ¬ (122 : Int) < (R : Int) := by omega
    clear h1 h2
    rw [HX.out]
    go_enter Tryd.func39, Tryd.ntmps39
    go_wp2_with fail
    go_ret
    exact ⟨rfl, Gr.refl _⟩
  · have HX : Sec (refC R = false) := sec (by simp [refC]; omega)
    have q1 : ¬ (R : Int) < 97 := by omega
    have q2 : (122 : Int) < (R : Int) := by omega
    have q3 : ¬ (R : Int) < 48 := by omega
    have q4 : (57 : Int) < (R : Int) := by omega
    have q5 : ((R : Int) == 45) = false := by rw [beq_eq_false_iff_ne]; omega
    have q6 : ((R : Int) == 95) = false := by rw [beq_eq_false_iff_ne]; omega
    have q7 : ((R : Int) != 45) = true := by rw [bne_iff_ne]; omega
    have q8 : ((R : Int) != 95) = true := by rw [bne_iff_ne]; omega
    clear h1 h2
    rw [HX.out]
    go_enter Tryd.func39, Tryd.ntmps39
    go_wp2_with fail
    go_ret
    exact ⟨rfl, Gr.refl _⟩
  · have HX : Sec (refC R = true) := sec (by simp [refC, h2, h3])
    have q1 : (R : Int) < 97 := by omega
    have q3 : ¬ (R : Int) < 48 := by omega
    have q4 : ¬ (57 : Int) < (R : Int) := by omega
    clear h1 h2 h3
    rw [HX.out]
    go_enter Tryd.func39, Tryd.ntmps39
    go_wp2_with fail
    go_ret
    exact ⟨rfl, Gr.refl _⟩
  · subst h4
    have HX : Sec (refC 95 = true) := sec (by decide)
    rw [HX.out]
    go_enter Tryd.func39, Tryd.ntmps39
    go_wp2_with fail
    go_ret
    exact ⟨rfl, Gr.refl _⟩
  · have HX : Sec (refC R = false) := sec (by simp [refC]; omega)
    have q1 : (R : Int) < 97 := by omega
    have q3 : ¬ (R : Int) < 48 := by omega
    have q4 : (57 : Int) < (R : Int) := by omega
    have q5 : ((R : Int) == 45) = false := by rw [beq_eq_false_iff_ne]; omega
    have q6 : ((R : Int) == 95) = false := by rw [beq_eq_false_iff_ne]; omega
    have q7 : ((R : Int) != 45) = true := by rw [bne_iff_ne]; omega
    have q8 : ((R : Int) != 95) = true := by rw [bne_iff_ne]; omega
    clear h1 h2 h3 h4
    rw [HX.out]
    go_enter Tryd.func39, Tryd.ntmps39
    go_wp2_with fail
    go_ret
    exact ⟨rfl, Gr.refl _⟩
  · subst h3
    have HX : Sec (refC 45 = true) := sec (by decide)
    rw [HX.out]
    go_enter Tryd.func39, Tryd.ntmps39
    go_wp2_with fail
    go_ret
    exact ⟨rfl, Gr.refl _⟩
  · have HX : Sec (refC R = false) := sec (by simp [refC]; omega)
    have q1 : (R : Int) < 97 := by omega
    have q3 : (R : Int) < 48 := by omega
    have q5 : ((R : Int) == 45) = false := by rw [beq_eq_false_iff_ne]; omega
    have q6 : ((R : Int) == 95) = false := by rw [beq_eq_false_iff_ne]; omega
    have q7 : ((R : Int) != 45) = true := by rw [bne_iff_ne]; omega
    have q8 : ((R : Int) != 95) = true := by rw [bne_iff_ne]; omega
    clear h1 h2 h3
    rw [HX.out]
    go_enter Tryd.func39, Tryd.ntmps39
    go_wp2_with fail
    go_ret
    exact ⟨rfl, Gr.refl _⟩

set_option maxHeartbeats 1000000 in
theorem splitSeq_any (s : List UInt8) (w : World) : Calls Tryd.prog 55 #[.string (bs s), .string (bs [47]), .int .i64 0] w fun e w' =>
    e = .returned (.func (.func 65) #[] #[.pointer (some ⟨w.heap.size + 1, 0, none⟩), .pointer (some ⟨w.heap.size, 0, none⟩), .pointer (some ⟨w.heap.size + 1 + 1, 0, none⟩)]) ∧
    w' = ((w.alloc (.cells #[.string (bs s)] 9)).alloc (.cells #[.string (bs [47])] 9)).alloc (.cells #[.int .i64 0] 3) := by
  go_enter Tryd.func55, Tryd.ntmps55
  go_wp2_with fail
  go_ret
  exact ⟨rfl, rfl⟩
set_option maxHeartbeats 1000000 in
theorem splitSeqF_any (s : List UInt8) (w : World) : Calls Tryd.prog 38 #[.string (bs s), .string (bs [47])] w fun e w' =>
    e = .returned (.func (.func 65) #[] #[.pointer (some ⟨w.heap.size + 1, 0, none⟩), .pointer (some ⟨w.heap.size, 0, none⟩), .pointer (some ⟨w.heap.size + 1 + 1, 0, none⟩)]) ∧
    w' = ((w.alloc (.cells #[.string (bs s)] 9)).alloc (.cells #[.string (bs [47])] 9)).alloc (.cells #[.int .i64 0] 3) := by
  have H := sec (splitSeq_any s)
  go_enter Tryd.func38, Tryd.ntmps38
  go_wp2_with (go_at_call 55; refine Calls.mono (H.out _) ?_; rintro e w1 ⟨rfl, rfl⟩)
  go_ret
  exact ⟨rfl, rfl⟩

theorem gr_then_set {W W1 : World} (g : Gr W W1) (b : Nat) (u : Value) : W.grownBy (W1.setCell ⟨b, 0, none⟩ u) (some b) := by
  have k := grown_setCell W1 ⟨b, 0, none⟩ u
  exact ⟨k.os.trans g.below.os, k.tape.trans g.below.tape, k.output.trans g.below.output, Nat.le_trans g.below.size k.size, fun i hi hne => (k.block i (Nat.lt_of_lt_of_le hi g.below.size) hne).trans (g.below.block i hi)⟩
set_option maxHeartbeats 4000000 in
theorem refNamed_any (s : List UInt8) (w : World) (hs : s.length ≤ 1099511627776) :
    Calls Tryd.prog 21 #[.string (bs s)] w fun e w' => e = .returned (.bool (refB s)) ∧ Gr w w' := by
  have HC := sec (fun (x : List UInt8) (hx : x.length ≤ 1099511627776) w => containsFunc_any 39 _ notref_any (fun R h => by simp [refC]; omega) (enters_fn Tryd.func39 (by kernel_rfl) rfl) x w (by omega))
  have HS := sec (splitSeqF_any s)
  refine (callsIn_wide (n := 3)).1 ?_
  refine callsIn_of_wp_marks Tryd.func21 rfl trivial ?_ rfl
  simp only [Tryd.ntmps21, List.size_toArray, List.length_cons, List.length_nil, Nat.reduceAdd, Nat.reduceSub, Array.replicate_succ, Array.replicate_zero, List.push_toArray, List.append_toArray, List.nil_append, List.cons_append]
  by_cases h60 : s.length ≤ 60
  · have q60 : ¬ (60 : Int) < (s.length : Int) := by omega
    gi_wp2_with (refine ⟨trivial, ?_⟩; refine CallsIn.mono (callsIn_wide.2 (HS.out _)) ?_; rintro e w1 ⟨rfl, rfl⟩)
    obtain ⟨wl, hwl⟩ : ∃ x, x = (((w.alloc (.cells #[.bool false] 4)).alloc (.cells #[.string (bs s)] 9)).alloc (.cells #[.string (bs [47])] 9)).alloc (.cells #[.int .i64 0] 3) := ⟨_, rfl⟩
    have b0 : Blk wl w.heap.size 4 #[.bool false] := by rw [hwl]; exact (((Blk.new w _ _).alloc _).alloc _).alloc _
    have b1 : Blk wl (w.heap.size + 1) 9 #[.string (bs s)] := by rw [hwl]; exact ((Blk.new1 w _ _ _).alloc _).alloc _
    have b2 : Blk wl (w.heap.size + 1 + 1) 9 #[.string (bs [47])] := by
      rw [hwl]
      have := Blk.new ((w.alloc (.cells #[.bool false] 4)).alloc (.cells #[.string (bs s)] 9)) 9 #[.string (bs [47])]
      rw [World.size_alloc, World.size_alloc] at this
      exact this.alloc _
    have b3 : Blk wl (w.heap.size + 1 + 1 + 1) 3 #[.int .i64 0] := by
      rw [hwl]
      have := Blk.new (((w.alloc (.cells #[.bool false] 4)).alloc (.cells #[.string (bs s)] 9)).alloc (.cells #[.string (bs [47])] 9)) 3 #[.int .i64 0]
      rwa [World.size_alloc, World.size_alloc, World.size_alloc] at this
    have g0 : Gr w wl := by rw [hwl]; exact ((((Gr.refl w).alloc _).alloc _).alloc _).alloc _
    rw [← hwl]
    clear hwl
    have hwz : w.heap.size < wl.heap.size := b0.lt
    refine wpIn_rangeSplit (n := 3) (Bs := w.heap.size + 1) (Bp := w.heap.size + 1 + 1) (Bv := w.heap.size + 1 + 1 + 1) rfl rfl s b1 b2 b3 (by omega) (by omega) hs
      (fun z W => rnGo 0 (s ++ [47]) = rnGo 0 z ∧ Blk W w.heap.size 4 #[.bool false] ∧ Gr w W)
      (fun W => rnGo 0 (s ++ [47]) = false ∧ Blk W w.heap.size 4 #[.bool false] ∧ Gr w W)
      (fun z W W' r h hg hr => ⟨h.1, h.2.1.grown hg (fun e => by have := hr _ e.symm; omega), h.2.2.grown hg (fun k e => by have := hr _ e; omega)⟩)
      (fun W W' r h hg hr => ⟨h.1, h.2.1.grown hg (fun e => by have := hr _ e.symm; omega), h.2.2.grown hg (fun k e => by have := hr _ e; omega)⟩)
      ⟨rfl, b0, g0⟩
      (fun x => { tmps := #[.string (bs s), undef, .pointer (some ⟨w.heap.size, 0, none⟩), .string (bs x), undef, .string (bs s), .int .i64 (s.length : Int), .bool false, .string (bs s), .func (.func 65) #[] #[.pointer (some ⟨w.heap.size + 1 + 1, 0, none⟩), .pointer (some ⟨w.heap.size + 1, 0, none⟩), .pointer (some ⟨w.heap.size + 1 + 1 + 1, 0, none⟩)], .string (bs x), undef, undef, undef, undef, undef, undef, undef], defers := [] }) ?assign ?body ?done ?stop
    case assign =>
      intro l x W K hK
      gi_wp2
      exact hK
    case body =>
      rintro l x t W ⟨hz, hb, hg⟩ hx hxl
      have hh := rn_here (t := t) hx
      rw [← hz] at hh
      have HCx := sec (HC.out x hxl)
      have HH := sec hh
      have HB := sec hb
      have HX0 : Sec (x.any (fun c => !refC c.toNat) = false → x ≠ [] → rnGo 0 (s ++ [47]) = rnGo 0 t) := sec (fun h1 h2 => by
        rw [HH.out]
        have h3 : x.all (fun c => refC c.toNat) = true := by rw [any_notref] at h1; simpa using h1
        rw [h3]
        cases x with
        | nil => exact absurd rfl h2
        | cons c r => rfl)
      have HX1 : Sec (x.any (fun c => !refC c.toNat) = true → rnGo 0 (s ++ [47]) = false) := sec (fun h1 => by
        rw [HH.out, rn_bad h1]; simp)
      have HX2 : Sec (x = [] → rnGo 0 (s ++ [47]) = false) := sec (fun h1 => by rw [HH.out, h1]; rfl)
      have c0 : W.cell? ⟨w.heap.size, 0, none⟩ = some (.bool false) := hb.cell 0
      have f0 : W.frozen? ⟨w.heap.size, 0, none⟩ = false := hb.frozen 0
      clear hh hz hx b0 b1 b2 b3 hb HS HC
      obtain ⟨b, hbx⟩ : ∃ b, b = x.any (fun c => !refC c.toNat) := ⟨_, rfl⟩
      rw [← hbx] at HCx HX0 HX1
      by_cases hx0 : x = []
      · have HF := sec (HX2.out hx0)
        subst hx0
        clear HX0 HX1 HX2 hbx
        gi_wp2
        refine ⟨trivial, ?_⟩
        gi_wp2
        exact ⟨w.heap.size, hwz, grown_setCell _ _ _, HF.out, HB.out.set_ 0 _, hg.setCell (p := ⟨w.heap.size, 0, none⟩) (Nat.le_refl _) _⟩
      · have hne : (x == []) = false := by rw [beq_eq_false_iff_ne]; exact hx0
        have HNE := sec hx0
        clear hbx hx0
        cases b
        · have HF := sec (HX0.out rfl HNE.out)
          clear HX0 HX1 HX2
          gi_wp2_with (refine ⟨trivial, ?_⟩; refine CallsIn.mono (CallsIn.inRound l (callsIn_wide.2 (HCx.out _))) ?_; rintro e w1 ⟨rfl, g1⟩)
          exact ⟨g1, HF.out, HB.out.gr g1, hg.trans g1⟩
        · have HF := sec (HX1.out rfl)
          clear HX0 HX1 HX2
          gi_wp2_with (refine ⟨trivial, ?_⟩; refine CallsIn.mono (CallsIn.inRound l (callsIn_wide.2 (HCx.out _))) ?_; rintro e w1 ⟨rfl, g1⟩; have c1 : w1.cell? ⟨w.heap.size, 0, none⟩ = some (.bool false) := (HB.out.gr g1).cell 0; have f1 : w1.frozen? ⟨w.heap.size, 0, none⟩ = false := (HB.out.gr g1).frozen 0)
          exact ⟨w.heap.size, hwz, gr_then_set g1 _ _, HF.out, (HB.out.gr g1).set_ 0 _, (hg.trans g1).setCell (p := ⟨w.heap.size, 0, none⟩) (Nat.le_refl _) _⟩
    case done =>
      rintro D W hD ⟨hz, hb, hg⟩ hK
      have c0 : W.cell? ⟨w.heap.size, 0, none⟩ = some (.bool false) := hb.cell 0
      have f0 : W.frozen? ⟨w.heap.size, 0, none⟩ = false := hb.frozen 0
      have HF : Sec (refB s = true) := sec (by unfold refB; rw [hz, decide_eq_true h60]; rfl)
      have HB := sec hb
      clear hz hb HC HS b0 b1 b2 b3
      gi_wp2
      have hDl := (Array.getElem?_eq_some_iff.1 hK).1
      have hK' : (W.setCell ⟨w.heap.size, 0, none⟩ (.bool true)).heap[D]? = some (.deferred (some [])) := (Below.heap_setCell W ⟨w.heap.size, 0, none⟩ (.bool true) D (by show D ≠ w.heap.size; omega)).trans hK
      have hBx := (HB.out.set_ 0 (.bool true)).grown (grownBy_putObj' _ D (.deferred none)) (fun e => by injection e with e; omega)
      have hc5 : World.cell? ((W.setCell ⟨w.heap.size, 0, none⟩ (.bool true)).putObj D (.deferred none)) ⟨w.heap.size, 0, none⟩ = some (.bool true) := hBx.cell 0
      have hG := (hg.setCell (p := ⟨w.heap.size, 0, none⟩) (Nat.le_refl _) (.bool true)).grown (grownBy_putObj' _ D (.deferred none)) (fun k e => by cases e; omega)
      refine ⟨by simp, .inl ⟨_, _, rfl, run_takeDeferred hK', ?_⟩⟩
      refine ⟨.bool true, ?_, by rw [HF.out], hG⟩
      simp [results, Tryd.f21, go_sem, hc5]
    case stop =>
      rintro D W hD ⟨hz, hb, hg⟩ hK
      have HF : Sec (refB s = false) := sec (by unfold refB; rw [hz]; rfl)
      gi_wp2
      have hBx := hb.grown (grownBy_putObj' W D (.deferred none)) (fun e => by injection e with e; omega)
      have hc5 : World.cell? (W.putObj D (.deferred none)) ⟨w.heap.size, 0, none⟩ = some (.bool false) := hBx.cell 0
      have hG := hg.grown (grownBy_putObj' W D (.deferred none)) (fun k e => by cases e; omega)
      refine ⟨by simp, .inl ⟨_, _, rfl, run_takeDeferred hK, ?_⟩⟩
      refine ⟨.bool false, ?_, by rw [HF.out], hG⟩
      simp [results, Tryd.f21, go_sem, hc5]
  · have q60 : (60 : Int) < (s.length : Int) := by omega
    have HF : Sec (refB s = false) := sec (by unfold refB; rw [decide_eq_false h60]; simp)
    have hB := Blk.new w 4 #[.bool false]
    have hc5 : (w.alloc (.cells #[.bool false] 4)).cell? ⟨w.heap.size, 0, none⟩ = some (.bool false) := hB.cell 0
    gi_wp2_with fail
    refine ⟨.bool false, ?_, by rw [HF.out], (Gr.refl w).alloc _⟩
    simp [results, Tryd.f21, go_sem, hc5]
end Go.Proofs.YtmmpekdbknclcaaDoor

namespace Go.Proofs.YtmmpekdbknclcaaDoor
set_option maxRecDepth 100000
open Go.RowKit
set_option linter.unusedVariables false
set_option maxHeartbeats 8000000 in
theorem stGood_any (s : Stp) (A : Option Addr) (c : Nat) (B : Option Addr) (d : Nat) (w : World) (hR : StR w s A c B d) (hz : StSz 1099511627776 s) :
    Calls Tryd.prog 17 #[.agg (stepA s A c B d)] w fun e w' => e = .returned (.int .i64 (stE s)) ∧ Gr w w' := by
  have HNa := sec (fun w => refNamed_any s.r w hz.r)
  obtain ⟨wa, hwa⟩ : ∃ x, x = w.alloc (.cells (stepA s A c B d) 37) := ⟨_, rfl⟩
  have hb : Blk wa w.heap.size 37 (stepA s A c B d) := by rw [hwa]; exact Blk.new w _ _
  have hg0 : Gr w wa := by rw [hwa]; exact (Gr.refl w).alloc _
  obtain ⟨p, hp⟩ : ∃ p, p = w.heap.size := ⟨_, rfl⟩
  rw [← hp] at hb
  have HW := sec (hR.who.gr hg0)
  have HS := sec (hR.seals.gr hg0)
  have hwl := hz.who
  have hsl := hz.seals
  obtain ⟨V, hV⟩ : ∃ V : Int, V = stE s := ⟨_, rfl⟩
  rw [← hV]
  have HV := sec hV
  obtain ⟨r, o, n, who, seals⟩ := s
  simp only at HNa hwl hsl HW HS
  unfold stepA at hb hwa
  unfold stepA
  simp only at hb hwa ⊢
  have HCELL : Sec (∀ w', Gr wa w' → w'.cell? ⟨p, 0, none⟩ = some (.string (bs r)) ∧ w'.cell? ⟨p, 1, none⟩ = some (.string (bs o)) ∧ w'.cell? ⟨p, 2, none⟩ = some (.string (bs n)) ∧ w'.cell? ⟨p, 3, none⟩ = some (.slice A who.length c) ∧ w'.cell? ⟨p, 4, none⟩ = some (.slice B seals.length d)) := sec (fun w' g => ⟨(hb.gr g).cell 0, (hb.gr g).cell 1, (hb.gr g).cell 2, (hb.gr g).cell 3, (hb.gr g).cell 4⟩)
  clear hb hV hR hz
  obtain ⟨ok, hok⟩ : ∃ ok : Bool, ok = stB ⟨r, o, n, who, seals⟩ := ⟨_, rfl⟩
  have HOK := sec hok
  clear hok
  go_enter Tryd.func17, Tryd.ntmps17
  go_upto_region 1 with fail
  rw [← hwa, ← hp]
  clear hwa hp
  obtain ⟨c0, c1, c2, c3, c4⟩ := HCELL.out wa (Gr.refl _)
  go_cut [39] from 5 to 39 (fun v39 wc => v39 = .bool (!ok) ∧ Gr wa wc)
  case first =>
    obtain ⟨rb, hrb⟩ : ∃ b, b = refB r := ⟨_, rfl⟩
    rw [← hrb] at HNa
    have hok : ok = (rb && (mayB o && (mayB n && !(o == n)))) := by rw [HOK.out, hrb]; rfl
    clear hrb
    cases rb
    · have HX : Sec (ok = false) := sec (by rw [hok]; rfl)
      clear hok
      go_wp2_with (go_at_call 21; refine Calls.mono (HNa.out _) ?_; rintro e w1 ⟨rfl, g1⟩; obtain ⟨d0, d1, d2, d3, d4⟩ := HCELL.out w1 g1)
      go_meet
      exact ⟨by rw [HX.out]; rfl, g1⟩
    · rcases may_cases o with ⟨a1, a2⟩ | ⟨a1, a2, a3⟩ | ⟨a1, a2, a3⟩
      · rw [a2] at hok
        clear a2
        rcases may_cases n with ⟨b1, b2⟩ | ⟨b1, b2, b3⟩ | ⟨b1, b2, b3⟩
        · rw [b2] at hok
          clear b2
          cases heq : (o == n)
          · have HX : Sec (ok = true) := sec (by rw [hok, heq]; rfl)
            clear hok
            go_wp2_with (go_at_call 21; refine Calls.mono (HNa.out _) ?_; rintro e w1 ⟨rfl, g1⟩; obtain ⟨d0, d1, d2, d3, d4⟩ := HCELL.out w1 g1)
            go_meet
            exact ⟨by rw [HX.out]; rfl, g1⟩
          · have HX : Sec (ok = false) := sec (by rw [hok, heq]; rfl)
            clear hok
            go_wp2_with (go_at_call 21; refine Calls.mono (HNa.out _) ?_; rintro e w1 ⟨rfl, g1⟩; obtain ⟨d0, d1, d2, d3, d4⟩ := HCELL.out w1 g1)
            go_meet
            exact ⟨by rw [HX.out]; rfl, g1⟩
        · rw [b3] at hok
          clear b3
          cases heq : (o == n)
          · have HX : Sec (ok = true) := sec (by rw [hok, heq]; rfl)
            clear hok
            go_wp2_with (go_at_call 21; refine Calls.mono (HNa.out _) ?_; rintro e w1 ⟨rfl, g1⟩; obtain ⟨d0, d1, d2, d3, d4⟩ := HCELL.out w1 g1)
            go_meet
            exact ⟨by rw [HX.out]; rfl, g1⟩
          · have HX : Sec (ok = false) := sec (by rw [hok, heq]; rfl)
            clear hok
            go_wp2_with (go_at_call 21; refine Calls.mono (HNa.out _) ?_; rintro e w1 ⟨rfl, g1⟩; obtain ⟨d0, d1, d2, d3, d4⟩ := HCELL.out w1 g1)
            go_meet
            exact ⟨by rw [HX.out]; rfl, g1⟩
        · have HX : Sec (ok = false) := sec (by rw [hok, b3]; simp)
          clear hok b3
          go_wp2_with (go_at_call 21; refine Calls.mono (HNa.out _) ?_; rintro e w1 ⟨rfl, g1⟩; obtain ⟨d0, d1, d2, d3, d4⟩ := HCELL.out w1 g1)
          go_meet
          exact ⟨by rw [HX.out]; rfl, g1⟩
      · rw [a3] at hok
        clear a3
        rcases may_cases n with ⟨b1, b2⟩ | ⟨b1, b2, b3⟩ | ⟨b1, b2, b3⟩
        · rw [b2] at hok
          clear b2
          cases heq : (o == n)
          · have HX : Sec (ok = true) := sec (by rw [hok, heq]; rfl)
            clear hok
            go_wp2_with (go_at_call 21; refine Calls.mono (HNa.out _) ?_; rintro e w1 ⟨rfl, g1⟩; obtain ⟨d0, d1, d2, d3, d4⟩ := HCELL.out w1 g1)
            go_meet
            exact ⟨by rw [HX.out]; rfl, g1⟩
          · have HX : Sec (ok = false) := sec (by rw [hok, heq]; rfl)
            clear hok
            go_wp2_with (go_at_call 21; refine Calls.mono (HNa.out _) ?_; rintro e w1 ⟨rfl, g1⟩; obtain ⟨d0, d1, d2, d3, d4⟩ := HCELL.out w1 g1)
            go_meet
            exact ⟨by rw [HX.out]; rfl, g1⟩
        · rw [b3] at hok
          clear b3
          cases heq : (o == n)
          · have HX : Sec (ok = true) := sec (by rw [hok, heq]; rfl)
            clear hok
            go_wp2_with (go_at_call 21; refine Calls.mono (HNa.out _) ?_; rintro e w1 ⟨rfl, g1⟩; obtain ⟨d0, d1, d2, d3, d4⟩ := HCELL.out w1 g1)
            go_meet
            exact ⟨by rw [HX.out]; rfl, g1⟩
          · have HX : Sec (ok = false) := sec (by rw [hok, heq]; rfl)
            clear hok
            go_wp2_with (go_at_call 21; refine Calls.mono (HNa.out _) ?_; rintro e w1 ⟨rfl, g1⟩; obtain ⟨d0, d1, d2, d3, d4⟩ := HCELL.out w1 g1)
            go_meet
            exact ⟨by rw [HX.out]; rfl, g1⟩
        · have HX : Sec (ok = false) := sec (by rw [hok, b3]; simp)
          clear hok b3
          go_wp2_with (go_at_call 21; refine Calls.mono (HNa.out _) ?_; rintro e w1 ⟨rfl, g1⟩; obtain ⟨d0, d1, d2, d3, d4⟩ := HCELL.out w1 g1)
          go_meet
          exact ⟨by rw [HX.out]; rfl, g1⟩
      · have HX : Sec (ok = false) := sec (by rw [hok, a3]; simp)
        clear hok a3
        go_wp2_with (go_at_call 21; refine Calls.mono (HNa.out _) ?_; rintro e w1 ⟨rfl, g1⟩; obtain ⟨d0, d1, d2, d3, d4⟩ := HCELL.out w1 g1)
        go_meet
        exact ⟨by rw [HX.out]; rfl, g1⟩
  case rest =>
    obtain ⟨rfl, gc⟩ := hcut
    clear c0 c1 c2 c3 c4
    obtain ⟨c0, c1, c2, c3, c4⟩ := HCELL.out wc gc
    cases ok
    · have HV2 : Sec (V = 2) := sec (by rw [HV.out]; unfold stE; rw [← HOK.out]; rfl)
      go_wp2_with fail
      go_ret
      exact ⟨by rw [HV2.out]; rfl, hg0.trans gc⟩
    · have HV1 : Sec (V = if 8 < who.length ∨ ¬ seals.length = who.length then 6 else stF (-1) who seals) := sec (by rw [HV.out]; unfold stE; rw [← HOK.out]; rfl)
      by_cases h8 : 8 < who.length
      · have q8 : (8 : Int) < (who.length : Int) := by omega
        have HV6 : Sec (V = 6) := sec (by rw [HV1.out, if_pos (Or.inl h8)])
        clear h8
        go_wp2_with fail
        go_ret
        exact ⟨by rw [HV6.out]; rfl, hg0.trans gc⟩
      · have q8 : ¬ (8 : Int) < (who.length : Int) := by omega
        by_cases hne : seals.length = who.length
        · have HLEN := sec hne
          have HV0 : Sec (V = stF (-1) who seals) := sec (by rw [HV1.out, if_neg (by omega)])
          have qne : ((who.length : Int) != (seals.length : Int)) = false := by rw [bne_eq_false_iff_eq]; omega
          clear hne h8
          go_wp2_with fail
          clear c0 c1 c2 c3 c4 qne
          go_loopg [56, 3, 4] who.length (fun fuel iv _ _ wr => ∃ (i : Nat) (last : Int), iv = .int .i64 (i : Int) ∧ who.length ≤ i + fuel ∧ i ≤ who.length ∧ Sec (stSeen ⟨r, o, n, who, seals⟩ i last) ∧ Gr wa wr)
          case atStart => exact ⟨0, -1, rfl, by omega, by omega, sec (stSeen0 _), gc⟩
          case round =>
            obtain ⟨i, last, rfl, hik, hi, HST, hg⟩ := hrel
            by_cases hlt : i < who.length
            · have hss : i < seals.length := by have := HLEN.out; omega
              have hii : (i : Int) < (who.length : Int) := by omega
              have hjj : (i : Int) < (seals.length : Int) := by omega
              obtain ⟨b, off, rfl, e0⟩ := (HW.out.gr hg).cell hlt
              obtain ⟨b2, off2, rfl, x0⟩ := (HS.out.gr hg).cell hss
              obtain ⟨c0, c1, c2, c3, c4⟩ := HCELL.out wr hg
              have hhere := HST.out.here (s := ⟨r, o, n, who, seals⟩) hlt hss
              have HNEXT := sec (fun h1 h2 => HST.out.next (s := ⟨r, o, n, who, seals⟩) hlt hss h1 h2)
              have hlow := HST.out.low (s := ⟨r, o, n, who, seals⟩) (Nat.le_of_lt hlt)
              simp only at hhere HNEXT
              have HPREV : Sec (∀ j, i = j + 1 → wr.cell? ⟨b, off + j, none⟩ = some (.int .i64 last)) := sec (fun j hj => by
                obtain ⟨b', off', e, h0⟩ := (HW.out.gr hg).cell (i := j) (by omega)
                injection e with e; injection e with e3 e4 _
                subst e3 e4
                have := (HST.out.2.2 ⟨by omega, Nat.le_of_lt hlt⟩).1
                subst hj
                rw [this]; exact h0)
              have HZERO : Sec (i = 0 → last = -1) := sec HST.out.2.1
              obtain ⟨mw, hmw⟩ : ∃ x, x = who[i] := ⟨_, rfl⟩
              obtain ⟨sl, hslx⟩ : ∃ x, x = seals[i] := ⟨_, rfl⟩
              rw [← hmw, ← hslx] at hhere HNEXT
              rw [← hmw] at e0
              rw [← hslx] at x0
              have HHERE := sec hhere
              have HII := sec (And.intro hss hlt)
              clear hmw hslx hhere hss hlt
              by_cases hbad : mw ≤ last ∨ 7 < mw
              · have HV3 : Sec (V = 3) := sec (by rw [HV0.out, HHERE.out, if_pos hbad])
                by_cases g0 : mw < 0
                · have q0 : decide (mw < 0) = true := decide_eq_true g0
                  clear hbad
                  go_wp2_with fail
                  go_ret
                  exact ⟨by rw [HV3.out]; rfl, hg0.trans hg⟩
                · have q0 : decide (mw < 0) = false := decide_eq_false g0
                  by_cases g1 : 8 ≤ mw
                  · have q1 : decide (8 ≤ mw) = true := decide_eq_true g1
                    clear hbad
                    go_wp2_with fail
                    go_ret
                    exact ⟨by rw [HV3.out]; rfl, hg0.trans hg⟩
                  · have q1 : decide (8 ≤ mw) = false := decide_eq_false g1
                    have hi0 : i ≠ 0 := fun e => by have := HZERO.out e; omega
                    obtain ⟨j, hj⟩ : ∃ j, i = j + 1 := ⟨i - 1, by omega⟩
                    have p0 := HPREV.out j hj
                    have hij : (i : Int) - 1 = (j : Int) := by omega
                    have hi1 : 0 < i := by omega
                    have hjk : (j : Int) < (who.length : Int) := by omega
                    have q2 : decide (mw ≤ last) = true := decide_eq_true (by omega)
                    clear hbad hj hi0
                    go_wp2_with fail
                    go_ret
                    exact ⟨by rw [HV3.out]; rfl, hg0.trans hg⟩
              · have q0 : decide (mw < 0) = false := decide_eq_false (by omega)
                have q1 : decide (8 ≤ mw) = false := decide_eq_false (by omega)
                have q2 : decide (mw ≤ last) = false := decide_eq_false (by omega)
                by_cases hs32 : sl.length = 32
                · have q3 : ((sl.length : Int) != 32) = false := by rw [bne_eq_false_iff_eq]; omega
                  have HEN : Sec (stSeen ⟨r, o, n, who, seals⟩ (i + 1) mw) := sec (HNEXT.out hbad hs32)
                  clear hbad hs32
                  by_cases hi0 : i = 0
                  · have hi1 : ¬ 0 < i := by omega
                    clear hi0
                    go_wp2_with fail
                    go_roundg (gk - 1)
                    case rel => exact ⟨i + 1, mw, by go_num, by omega, by have := HII.out.2; omega, HEN, hg⟩
                    case measure => have := HII.out.2; omega
                  · obtain ⟨j, hj⟩ : ∃ j, i = j + 1 := ⟨i - 1, by omega⟩
                    have p0 := HPREV.out j hj
                    have hij : (i : Int) - 1 = (j : Int) := by omega
                    have hi1 : 0 < i := by omega
                    have hjk : (j : Int) < (who.length : Int) := by omega
                    clear hj hi0
                    go_wp2_with fail
                    go_roundg (gk - 1)
                    case rel => exact ⟨i + 1, mw, by go_num, by omega, by have := HII.out.2; omega, HEN, hg⟩
                    case measure => have := HII.out.2; omega
                · have q3 : ((sl.length : Int) != 32) = true := by rw [bne_iff_ne]; omega
                  have HV2 : Sec (V = 2) := sec (by rw [HV0.out, HHERE.out, if_neg hbad, if_neg hs32])
                  clear hbad hs32
                  by_cases hi0 : i = 0
                  · have hi1 : ¬ 0 < i := by omega
                    clear hi0
                    go_wp2_with fail
                    go_ret
                    exact ⟨by rw [HV2.out]; rfl, hg0.trans hg⟩
                  · obtain ⟨j, hj⟩ : ∃ j, i = j + 1 := ⟨i - 1, by omega⟩
                    have p0 := HPREV.out j hj
                    have hij : (i : Int) - 1 = (j : Int) := by omega
                    have hi1 : 0 < i := by omega
                    have hjk : (j : Int) < (who.length : Int) := by omega
                    clear hj hi0
                    go_wp2_with fail
                    go_ret
                    exact ⟨by rw [HV2.out]; rfl, hg0.trans hg⟩
            · have HE : Sec (V = 0) := sec (by rw [HV0.out]; exact HST.out.done (s := ⟨r, o, n, who, seals⟩) (by simp only; omega))
              obtain rfl : i = who.length := by omega
              clear hlt hik
              go_wp2_with fail
              go_ret
              exact ⟨by rw [HE.out]; rfl, hg0.trans hg⟩
        · have qne : ((who.length : Int) != (seals.length : Int)) = true := by rw [bne_iff_ne]; omega
          have HV6 : Sec (V = 6) := sec (by rw [HV1.out, if_pos (Or.inr hne)])
          clear hne h8
          go_wp2_with fail
          go_ret
          exact ⟨by rw [HV6.out]; rfl, hg0.trans gc⟩
end Go.Proofs.YtmmpekdbknclcaaDoor

namespace Go.Proofs.YtmmpekdbknclcaaDoor
/-- from place i on, n read so far -/
def getGo : Nat → Nat → List UInt8 → Option (Nat × Nat)
  | _, _, [] => none
  | i, n, c :: r =>
    if 9 ≤ i then none
    else if i = 8 ∧ 63 < c.toNat then none
    else if c.toNat < 128 then (if 0 < i ∧ c.toNat = 0 then none else some (n + c.toNat % 128 * 128 ^ i, i + 1))
    else getGo (i + 1) (n + c.toNat % 128 * 128 ^ i) r
def get (l : List UInt8) : Option (Nat × Nat) := getGo 0 0 l

end Go.Proofs.YtmmpekdbknclcaaDoor

namespace Go.Proofs.YtmmpekdbknclcaaDoor
open Go.RowKit
/-- P2.2: the number, its bytes, the error -/
def gN (l : List UInt8) : Nat := ((get l).map (·.1)).getD 0
def gK (l : List UInt8) : Nat := ((get l).map (·.2)).getD 0
def gE (l : List UInt8) : Nat := if (get l).isSome then 0 else 2
/-- P2.3 -/
def tOk (l : List UInt8) : Prop := gE l = 0 ∧ gN l ≤ 4096 ∧ gN l ≤ l.length - gK l
instance (l : List UInt8) : Decidable (tOk l) := by unfold tOk; infer_instance
end Go.Proofs.YtmmpekdbknclcaaDoor

namespace Go.Proofs.YtmmpekdbknclcaaDoor
open Go.RowKit
/-- P2.4: a reader's state: what is left, what went wrong -/
abbrev St := List UInt8 × Nat
/-- a reader of state q lies in block g -/
structure RdAt (T : TypeId) (w : World) (g : Nat) (q : St) : Prop where
  blk : Blk w g T #[.string (bs q.1), .int .i64 (q.2 : Int)]
  len : q.1.length ≤ 1152921504606846976
  err : q.2 ≤ 2

theorem RdAt.gr {T : TypeId} {w w' : World} {g : Nat} {q : St} (h : RdAt T w g q) (k : Gr w w') : RdAt T w' g q := ⟨h.blk.below k.below h.blk.lt, h.len, h.err⟩
end Go.Proofs.YtmmpekdbknclcaaDoor

namespace Go.Proofs.YtmmpekdbknclcaaDoor
open Go.RowKit
set_option linter.unusedVariables false
theorem enters_own {f : FuncId} {fn : Func} {c : Code} (hf : Tryd.prog.funcs[f]? = some fn) (hname : (fn.name == "runtime.NumGoroutine") = false) (hb : fn.body = some c) : ∀ args w, (callFunc f args).run Tryd.prog w = .ok (.enter f args) w := by
  intro args w
  have h1 : fn.name ≠ "runtime.NumGoroutine" := by simpa using hname
  simp [callFunc, hf, h1, hb, mark]
end Go.Proofs.YtmmpekdbknclcaaDoor

namespace Go.Proofs.YtmmpekdbknclcaaDoor
open Go.RowKit
set_option linter.unusedVariables false
abbrev ltB := Op.bytesLess
theorem ltB_irr : ∀ a : List UInt8, ltB a a = false
  | [] => rfl
  | c :: r => by
    have := ltB_irr r
    show (decide (c < c) || (c == c && ltB r r)) = false
    rw [this]; simp
theorem ltB_cons (a b : UInt8) (x y : List UInt8) : ltB (a :: x) (b :: y) = (decide (a < b) || (a == b && ltB x y)) := rfl
theorem ltB_trans : ∀ a b c : List UInt8, ltB a b = true → ltB b c = true → ltB a c = true
  | [], [], _, h, _ => by cases h
  | [], _ :: _, [], _, h => by cases h
  | [], _ :: _, _ :: _, _, _ => rfl
  | _ :: _, [], _, h, _ => by cases h
  | _ :: _, _ :: _, [], _, h => by cases h
  | a :: x, b :: y, c :: z, h1, h2 => by
    rw [ltB_cons, Bool.or_eq_true, Bool.and_eq_true, decide_eq_true_iff, beq_iff_eq] at h1 h2 ⊢
    rcases h1 with h1 | ⟨h1, h1'⟩
    · rcases h2 with h2 | ⟨h2, _⟩
      · exact .inl (UInt8.lt_trans h1 h2)
      · subst h2; exact .inl h1
    · subst h1
      rcases h2 with h2 | ⟨h2, h2'⟩
      · exact .inl h2
      · subst h2; exact .inr ⟨rfl, ltB_trans x y z h1' h2'⟩
theorem ltB_tri : ∀ a b : List UInt8, ltB a b = false → ltB b a = false → a = b
  | [], [], _, _ => rfl
  | [], _ :: _, h, _ => by cases h
  | _ :: _, [], _, h => by cases h
  | a :: x, b :: y, h1, h2 => by
    rw [ltB_cons, Bool.or_eq_false_iff, Bool.and_eq_false_iff, decide_eq_false_iff_not] at h1 h2
    have e : a = b := by
      have h3 := h1.1
      have h4 := h2.1
      apply UInt8.toNat_inj.1
      rw [UInt8.lt_iff_toNat_lt] at h3 h4
      omega
    subst e
    have h3 : ltB x y = false := by rcases h1.2 with h | h; simp at h; exact h
    have h4 : ltB y x = false := by rcases h2.2 with h | h; simp at h; exact h
    rw [ltB_tri x y h3 h4]
theorem cmp_lt : ∀ a b : List UInt8, (Lib.compareBytes a b < 0 ↔ ltB a b = true) ∧ (Lib.compareBytes a b = 0 ↔ a = b)
  | [], [] => by constructor <;> simp [Lib.compareBytes, ltB, Op.bytesLess]
  | [], _ :: _ => by constructor <;> simp [Lib.compareBytes, ltB, Op.bytesLess]
  | _ :: _, [] => by constructor <;> simp [Lib.compareBytes, ltB, Op.bytesLess]
  | a :: x, b :: y => by
    have ih := cmp_lt x y
    unfold Lib.compareBytes
    rw [ltB_cons, Bool.or_eq_true, Bool.and_eq_true, decide_eq_true_iff, beq_iff_eq]
    by_cases h1 : a < b
    · rw [if_pos h1]
      refine ⟨by simp [h1], ?_⟩
      constructor
      · intro h; omega
      · intro h; injection h with h _; subst h; exact absurd h1 (by rw [UInt8.lt_iff_toNat_lt]; omega)
    · rw [if_neg h1]
      by_cases h2 : b < a
      · rw [if_pos h2]
        refine ⟨⟨fun h => by omega, fun h => ?_⟩, ⟨fun h => by omega, fun h => ?_⟩⟩
        · rcases h with h | ⟨h, _⟩
          · exact absurd h h1
          · subst h; exact absurd h2 h1
        · injection h with h _; subst h; exact absurd h2 h1
      · rw [if_neg h2]
        have e : a = b := by
          apply UInt8.toNat_inj.1
          rw [UInt8.lt_iff_toNat_lt] at h1 h2
          omega
        subst e
        refine ⟨⟨fun h => .inr ⟨rfl, ih.1.1 h⟩, fun h => ?_⟩, ⟨fun h => by rw [ih.2.1 h], fun h => ?_⟩⟩
        · rcases h with h | ⟨_, h⟩
          · exact absurd h h1
          · exact ih.1.2 h
        · injection h with _ h; exact ih.2.2 h

/-- a file: its name, what is safe, what was written since -/
abbrev Fl := List UInt8 × List UInt8 × List UInt8
def fileC (f : Fl) : List Value := [.string (bs f.1), .string (bs f.2.1), .string (bs f.2.2)]
end Go.Proofs.YtmmpekdbknclcaaDoor

namespace Go.Proofs.YtmmpekdbknclcaaDoor
open Go.RowKit
set_option linter.unusedVariables false
theorem BRow.grown {w w' : World} {B g cap : Nat} {row : Option Nat} {l : List UInt8} (h : BRow w B g cap l) (hg : w.grownBy w' row) (hne : row ≠ some g) : BRow w' B g cap l := by
  have hb : w'.heap[g]? = w.heap[g]? := hg.block g h.lt (fun e => hne e.symm)
  exact ⟨h.base, Nat.lt_of_lt_of_le h.lt hg.size, h.le, h.max, fun j hj => by rw [World.cell?_of_block (a := ⟨g, j, none⟩) hb, World.frozen?_of_block (a := ⟨g, j, none⟩) hb]; exact h.there j hj, fun j u hu => by rw [World.cell?_of_block (a := ⟨g, j, none⟩) hb]; exact h.at_ j u hu⟩
end Go.Proofs.YtmmpekdbknclcaaDoor

namespace Go.Proofs.YtmmpekdbknclcaaDoor
set_option maxRecDepth 100000
open Go.RowKit
set_option linter.unusedVariables false
/-- a slice of files -/
def FRow (w : World) (A : Option Addr) (n : Nat) (fs : List Fl) : Prop := Row w 3 A n (fs.flatMap fileC)
theorem FRow.gr {w w' : World} {A : Option Addr} {n : Nat} {fs : List Fl} (h : FRow w A n fs) (g : Gr w w') : FRow w' A n fs := Row.gr h g
theorem FRow.len {w : World} {A : Option Addr} {n : Nat} {fs : List Fl} (h : FRow w A n fs) : fs.length = n := Row.flen fileC (fun _ => rfl) (by omega) h
theorem FRow.cell {w : World} {A : Option Addr} {n : Nat} {fs : List Fl} (h : FRow w A n fs) {i : Nat} (hi : i < fs.length) :
    ∃ b off, A = some ⟨b, off, none⟩ ∧ w.cell? ⟨b, off + i * 3, none⟩ = some (.string (bs fs[i].1)) ∧ w.cell? ⟨b, off + i * 3 + 1, none⟩ = some (.string (bs fs[i].2.1)) ∧ w.cell? ⟨b, off + i * 3 + 2, none⟩ = some (.string (bs fs[i].2.2)) := by
  obtain ⟨b, off, e, _, hc⟩ := Row.fcell fileC (fun _ => rfl) (by omega) h hi
  exact ⟨b, off, e, hc 0 _ rfl, hc 1 _ rfl, hc 2 _ rfl⟩
set_option maxRecDepth 100000 in
set_option maxHeartbeats 1000000 in
theorem compare_any (a b : List UInt8) (w : World) :
    Calls Tryd.prog 43 #[.string (bs a), .string (bs b)] w fun e w' => e = .returned (.int .i64 (Lib.compareBytes a b)) ∧ w' = w := by
  have HC : Sec (Calls Tryd.prog 57 #[.string (bs a), .string (bs b)] w fun e w' => e = .returned (.int .i64 (Lib.compareBytes a b)) ∧ w' = w) := sec (by
    have hr : ∀ w, (Extern.BytealgCompare.compare #[.string (bs a), .string (bs b)]).run Tryd.prog w = .ok (.int .i64 (Lib.compareBytes a b)) w := by
      intro w
      have := Lib.run_compareString (P := Tryd.prog) (bs a) (bs b) w
      rw [bs_data, bs_data] at this
      exact this
    go_enter Tryd.func57, Tryd.ntmps57
    go_wp2
    rw [run_callFunc_extern Tryd.func69 (by kernel_rfl) (by kernel_rfl) (by kernel_rfl) (e := Extern.BytealgCompare.compare) (by kernel_rfl), hr]
    simp only [Result.andThen]
    rw [Oper.upon_value]
    go_wp2
    go_ret
    exact ⟨rfl, rfl⟩)
  go_enter Tryd.func43, Tryd.ntmps43
  go_wp2_with (go_at_call 57; refine Calls.mono HC.out ?_; rintro e w1 ⟨rfl, rfl⟩)
  go_ret
  exact ⟨rfl, rfl⟩

/-! ### append of a row that may be nil -/
theorem run_append_row {t e ty : TypeId} {z : Value} {size bytes : Nat} (E : ElemOk t e z size bytes) {B : Nat} {w : World}
    {A0 : Option Addr} {n0 cap0 : Nat} {xs : List Value} (hown : w.ownsRow B e size (.slice A0 n0 cap0) n0 xs)
    {A : Option Addr} {n c : Nat} {vs : List Value} (hrow : Row w size A n vs) (hA : A = none → n = 0 ∧ c = 0) (h1 : ∀ u ∈ vs, u.oneCell' = true)
    (hbytes : (n0 + n) * bytes ≤ 140737488355328) (h63 : n0 + n ≤ maxLen) (hB : B ≤ w.heap.size) :
    ∃ A' cap' w', (Builtin.append_ #[t, t] ty #[.slice A0 n0 cap0, .slice A n c]).run Tryd.prog w = .ok (.slice A' (n0 + n) cap') w' ∧ w'.ownsRow B e size (.slice A' (n0 + n) cap') (n0 + n) (xs ++ vs) ∧ w.grownBy w' (Value.ownBlock (.slice A0 n0 cap0)) := by
  obtain ⟨i0, hi0, hz0, hz1, hz2⟩ := info_parts E.info
  cases A with
  | none =>
    obtain ⟨rfl, rfl⟩ := hA rfl
    have hv : vs = [] := List.eq_nil_of_length_eq_zero (by have := hrow.len; omega)
    subst hv
    refine ⟨A0, cap0, w, ?_, by rw [List.append_nil]; exact hown, ⟨rfl, rfl, rfl, Nat.le_refl _, fun _ _ _ => rfl⟩⟩
    exact run_append_owned_none w B t ty e i0 size E.under hi0 _ n0 xs hown
  | some ad =>
    have hnews : ∀ j u, vs[j]? = some u → w.cell? (ad.add j) = some u := by
      intro j u hu
      have hj : 0 < n := by
        rcases Nat.eq_zero_or_pos n with h | h
        · have := hrow.len
          rw [h, Nat.zero_mul] at this
          rw [List.eq_nil_of_length_eq_zero this] at hu
          cases hu
        · exact h
      obtain ⟨b, off, e, hc⟩ := Row.at_ hrow hj
      injection e with e
      subst e
      have : (⟨b, off, none⟩ : Addr).add j = ⟨b, off + j, none⟩ := by unfold Addr.add; split <;> simp_all
      rw [this]
      exact hc j u hu
    obtain ⟨v', w', hr, ho, hg, _⟩ := run_append_own (P := Tryd.prog) w B t ty e i0 z size bytes E.under hi0 hz0 hz1 hz2 E.zcells E.pos _ n0 xs hown ad n c vs hrow.len hnews h1 h63 hbytes hB
    rcases ho.2 with ⟨rfl, h0⟩ | ⟨g, cap', cur, rfl, _⟩
    · exact ⟨none, 0, w', by rw [hr, h0], by rw [h0] at ho ⊢; exact ho, hg⟩
    · exact ⟨_, _, w', hr, ho, hg⟩
theorem wp_append_row {o : Oper} {a : Act} {K : Act → World → Prop} {Q : Exit → Act → World → Prop} {t e : TypeId} {z : Value} {size bytes : Nat} (E : ElemOk t e z size bytes) (s x : Operand)
    (ho : o.op = .call { callee := .builtin .append, args := #[s, x], argTypes := #[t, t] }) {B : Nat} {w : World}
    {A0 : Option Addr} {n0 cap0 : Nat} {xs : List Value} (hs : a.eval s = .slice A0 n0 cap0) (hown : w.ownsRow B e size (.slice A0 n0 cap0) n0 xs)
    {A : Option Addr} {n c : Nat} {vs : List Value} (hx : a.eval x = .slice A n c) (hrow : Row w size A n vs) (hA : A = none → n = 0 ∧ c = 0) (h1 : ∀ u ∈ vs, u.oneCell' = true)
    (hbytes : (n0 + n) * bytes ≤ 140737488355328) (h63 : n0 + n ≤ maxLen) (hB : B ≤ w.heap.size)
    (h : ∀ A' cap' w', w'.ownsRow B e size (.slice A' (n0 + n) cap') (n0 + n) (xs ++ vs) → w.grownBy w' (Value.ownBlock (.slice A0 n0 cap0)) → K (a.put o.dst (.slice A' (n0 + n) cap')) w') : o.wp Tryd.prog a w K Q := by
  obtain ⟨A', cap', w', hr, h2, h3⟩ := run_append_row (ty := o.type) E hown hrow hA h1 hbytes h63 hB
  unfold Oper.wp execOp
  simp only [ho, resolve, invoke, builtin, Sem.run_bind, Sem.run_pure, Result.andThen_ok, List.map_toArray, List.map_cons, List.map_nil, hs, hx, hr]
  exact h A' cap' w' h2 h3
theorem wpList_append_row {ops : Array Oper} {rest : List Oper} {o : Oper} {a : Act} {Q : Exit → Act → World → Prop} {t e : TypeId} {z : Value} {size bytes : Nat} (E : ElemOk t e z size bytes) (hgd : o.guard = none) (s x : Operand)
    (ho : o.op = .call { callee := .builtin .append, args := #[s, x], argTypes := #[t, t] }) {B : Nat} {w : World}
    {A0 : Option Addr} {n0 cap0 : Nat} {xs : List Value} (hs : a.eval s = .slice A0 n0 cap0) (hown : w.ownsRow B e size (.slice A0 n0 cap0) n0 xs)
    {A : Option Addr} {n c : Nat} {vs : List Value} (hx : a.eval x = .slice A n c) (hrow : Row w size A n vs) (hA : A = none → n = 0 ∧ c = 0) (h1 : ∀ u ∈ vs, u.oneCell' = true)
    (hbytes : (n0 + n) * bytes ≤ 140737488355328) (h63 : n0 + n ≤ maxLen) (hB : B ≤ w.heap.size)
    (h : ∀ A' cap' w', w'.ownsRow B e size (.slice A' (n0 + n) cap') (n0 + n) (xs ++ vs) → w.grownBy w' (Value.ownBlock (.slice A0 n0 cap0)) → wpList Tryd.prog ops Q rest (a.put o.dst (.slice A' (n0 + n) cap')) w') : wpList Tryd.prog ops Q (o :: rest) a w :=
  wpList_plain hgd fun _ hK => wp_append_row E s x ho hs hown hx hrow hA h1 hbytes h63 hB fun A' cap' w' h2 h3 => hK _ _ (h A' cap' w' h2 h3)
theorem step_append_row {ops : Array Oper} {o : Oper} {a : Act} {K : Act → World → Prop} {Q : Exit → Act → World → Prop} {X : Prop} {t e : TypeId} {z : Value} {size bytes : Nat} (E : ElemOk t e z size bytes) (hgd : o.guard = none) (s x : Operand)
    (ho : o.op = .call { callee := .builtin .append, args := #[s, x], argTypes := #[t, t] }) {B : Nat} {w : World}
    {A0 : Option Addr} {n0 cap0 : Nat} {xs : List Value} (hs : a.eval s = .slice A0 n0 cap0) (hown : w.ownsRow B e size (.slice A0 n0 cap0) n0 xs)
    {A : Option Addr} {n c : Nat} {vs : List Value} (hx : a.eval x = .slice A n c) (hrow : Row w size A n vs) (hA : A = none → n = 0 ∧ c = 0) (h1 : ∀ u ∈ vs, u.oneCell' = true)
    (hbytes : (n0 + n) * bytes ≤ 140737488355328) (h63 : n0 + n ≤ maxLen) (hB : B ≤ w.heap.size)
    (h : ∀ A' cap' w', w'.ownsRow B e size (.slice A' (n0 + n) cap') (n0 + n) (xs ++ vs) → w.grownBy w' (Value.ownBlock (.slice A0 n0 cap0)) → K (a.put o.dst (.slice A' (n0 + n) cap')) w') :
    if Region.wanted o (yielded ops a.tmps) = true then Oper.wp Tryd.prog o a w K Q else X := by
  have hw : Region.wanted o (yielded ops a.tmps) = true := by simp [Region.wanted, hgd]
  rw [if_pos hw]
  exact wp_append_row E s x ho hs hown hx hrow hA h1 hbytes h63 hB h
end Go.Proofs.YtmmpekdbknclcaaDoor

namespace Go.Proofs.YtmmpekdbknclcaaDoor
open Go.RowKit
set_option linter.unusedVariables false
theorem oper_wp_post {P : Program} {o : Oper} {a : Act} {w : World} {K K' : Act → World → Prop} {Q Q' : Exit → Act → World → Prop} (h : ∀ a w, K a w → K' a w)
    (hq : ∀ e a w, e ≠ .normal → Q e a w → Q' e a w) (hh : o.wp P a w K Q) : o.wp P a w K' Q' := by
  unfold Oper.wp at *
  generalize (execOp a.eval o).run P w = r at *
  cases r with
  | ok n w' =>
    cases n <;> simp only [Oper.upon] at hh ⊢ <;>
      first
        | exact h _ _ hh
        | exact Calls.mono hh (fun e w'' he => by
            cases e with
            | returned v => exact h _ _ he
            | panicked c => exact hq _ _ _ (by intro h; cases h) he
            | outgrown => exact he.elim (fun a h1 => h1.elim (fun w h2 => ⟨a, w, hq _ _ _ (by intro h; cases h) h2⟩)))
        | exact Rows.mono hh (fun _ _ he => h _ _ he)
        | exact hq _ _ _ (by intro h; cases h) hh
  | halt x w' => cases x <;> simp only [Oper.upon] at hh ⊢ <;> first | exact hq _ _ _ (by intro h; cases h) hh | exact hh | exact hh.elim (fun a h1 => h1.elim (fun w h2 => ⟨a, w, hq _ _ _ (by intro h; cases h) h2⟩))

/-- the first n operations from k on are each the only one that may come up -/
def seqHB (md : Region.Mode) (ops : Array Oper) : Nat → Nat → Array Bool → Bool
  | 0, _, _ => true
  | n + 1, k, listed => decide (Region.ready md ops listed = [k]) && seqHB md ops n (k + 1) (listed.setIfInBounds k true)
def markN : Nat → Nat → Array Bool → Array Bool
  | 0, _, listed => listed
  | n + 1, k, listed => markN n (k + 1) (listed.setIfInBounds k true)

/-- a post that goes on, in the place of 'normal' -/
def OnQ (K : Act → World → Prop) (Q : Exit → Act → World → Prop) : Exit → Act → World → Prop
  | .normal, a, w => K a w
  | e, a, w => Q e a w
theorem OnQ.out {K : Act → World → Prop} {Q : Exit → Act → World → Prop} (e : Exit) (a : Act) (w : World) (h : e ≠ .normal) (hh : OnQ K Q e a w) : Q e a w := by
  cases e <;> first | exact absurd rfl h | exact hh

theorem wpAny_seqHead {P : Program} {md : Region.Mode} {ops : Array Oper} {Q : Exit → Act → World → Prop} {g : Nat} {K : Act → World → Prop} : ∀ (l : List Oper) (k : Nat) (listed : Array Bool) (a : Act) (w : World),
    (∀ j, j < l.length → l[j]? = ops[k + j]?) → seqHB md ops l.length k listed = true →
    (∀ a w, K a w → wpAny P md ops Q g (markN l.length k listed) a w) → wpList P ops (OnQ K Q) l a w → wpAny P md ops Q (l.length + g) listed a w
  | [], k, listed, a, w, _, _, hk, h => by
    simp only [List.length_nil, Nat.zero_add]
    exact hk a w h
  | o :: l, k, listed, a, w, hl, hB, hk, h => by
    have h0 : ops[k]? = some o := by simpa using (hl 0 (by simp)).symm
    simp only [List.length_cons, seqHB, Bool.and_eq_true, decide_eq_true_eq] at hB
    rw [List.length_cons, show l.length + 1 + g = (l.length + g) + 1 by omega]
    refine ⟨fun h1 => (by rw [hB.1] at h1; cases h1), fun i hi => ?_⟩
    rw [hB.1] at hi
    have hik : i = k := by simpa using hi
    subst hik
    have ih := fun a' w' h' => wpAny_seqHead (Q := Q) (g := g) (K := K) l (i + 1) (listed.setIfInBounds i true) a' w' (fun j hj => by
      have := hl (j + 1) (by simp only [List.length_cons]; omega); simpa [Nat.add_assoc, Nat.add_comm 1 j] using this) hB.2 hk h'
    unfold wpOp
    simp only [h0]
    simp only [wpList] at h
    split
    · rename_i hw
      simp only [hw, if_true] at h
      rcases h with h | ⟨h1, a1, w1, h2⟩
      · exact .inl (oper_wp_post ih OnQ.out h)
      · exact .inr ⟨h1, a1, w1, OnQ.out _ _ _ (by intro h; cases h) h2⟩
    · rename_i hw
      simp only [hw] at h
      exact ih _ _ h

def headStillB (ops : Array Oper) (n : Nat) : Bool :=
  Region.noSelect ops && seqHB .any ops n 0 (Array.replicate ops.size false) && Region.lexFrom .any ops (ops.size - n) n (markN n 0 (Array.replicate ops.size false))

theorem region_head_quiet {P : Program} {id : Nat} {Q : Exit → Act → World → Prop} {a : Act} {w : World} {l : List Oper} (n : Nat) (hm : P.follows .mixedOrders = true) (hn : n ≤ l.length) (hB : headStillB l.toArray n = true)
    (h : ∀ wd, wd = w.drew → wpList P l.toArray (OnQ (fun a' w' => wpQuiet P l.toArray (fun w'' => ∃ n, w'' = w'.drewN n) (fun a'' => ∀ w'', (∃ n, w'' = w'.drewN n) → Q .normal a'' w'') (l.drop n) a') Q) (l.take n) a wd) : (Code.region id l.toArray true).wp P Q a w := by
  simp only [headStillB, Bool.and_eq_true] at hB
  obtain ⟨⟨hs, hq⟩, hlx⟩ := hB
  refine wp_region_any hm ?_
  have htl : (l.take n).length = n := by simp; omega
  have hdl : (l.drop n).length = l.toArray.size - n := by simp
  have := wpAny_seqHead (P := P) (md := .any) (ops := l.toArray) (Q := Q) (g := l.toArray.size - n) (K := fun a' w' => wpQuiet P l.toArray (fun w'' => ∃ n, w'' = w'.drewN n) (fun a'' => ∀ w'', (∃ n, w'' = w'.drewN n) → Q .normal a'' w'') (l.drop n) a')
    (l.take n) 0 (Array.replicate l.toArray.size false) a { w with drawn := w.drawn + 1 }
    (fun j hj => by rw [htl] at hj; simp [hj]) (by rw [htl]; exact hq)
    (fun a' w' hk => by
      rw [htl]
      have := wpAnyQ_lex (P := P) (C := fun w'' => ∃ n, w'' = w'.drewN n) (md := .any) (Q := fun a'' => ∀ w'', (∃ n, w'' = w'.drewN n) → Q .normal a'' w'') hs (l.drop n) n (markN n 0 (Array.replicate l.toArray.size false)) a' (fun j => by simp [List.getElem?_drop]) (by rw [hdl]; exact hlx) hk
      rw [hdl] at this
      exact wpAny_of_quiet (P := P) (C := fun w'' => ∃ n, w'' = w'.drewN n) (Q := fun a'' => ∀ w'', (∃ n, w'' = w'.drewN n) → Q .normal a'' w'') (Q' := Q) (fun a'' w'' hw h => h w'' hw) (l.toArray.size - n) (markN n 0 (Array.replicate l.toArray.size false)) a' w' ⟨0, rfl⟩ this) (h _ rfl)
  rw [htl, show n + (l.toArray.size - n) = l.toArray.size by simp; omega] at this
  exact this

end Go.Proofs.YtmmpekdbknclcaaDoor

namespace Go.Proofs.YtmmpekdbknclcaaDoor
open Go.RowKit
set_option linter.unusedVariables false
abbrev SortedF (fs : List Fl) : Prop := fs.Pairwise (fun f g => ltB f.1 g.1 = true)
theorem SortedF.get {fs : List Fl} (h : SortedF fs) {i j : Nat} (hj : j < fs.length) (hij : i < j) : ltB (fs[i]'(by omega)).1 fs[j].1 = true :=
  List.pairwise_iff_getElem.1 h i j (by omega) hj hij
theorem SortedF.below {fs : List Fl} (h : SortedF fs) {name : List UInt8} {i j : Nat} (hj : j < fs.length) (hij : i ≤ j) (hl : ltB fs[j].1 name = true) : ltB (fs[i]'(by omega)).1 name = true := by
  rcases Nat.lt_or_eq_of_le hij with h1 | rfl
  · exact ltB_trans _ _ _ (h.get hj h1) hl
  · exact hl
theorem SortedF.above {fs : List Fl} (h : SortedF fs) {name : List UInt8} {i j : Nat} (hj : j < fs.length) (hij : i ≤ j) (hl : ltB (fs[i]'(by omega)).1 name = false) : ltB fs[j].1 name = false := by
  cases h2 : ltB fs[j].1 name with
  | false => rfl
  | true => rw [h.below hj hij h2] at hl; cases hl
end Go.Proofs.YtmmpekdbknclcaaDoor
