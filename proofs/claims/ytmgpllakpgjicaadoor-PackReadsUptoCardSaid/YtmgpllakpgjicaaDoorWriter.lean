/-
  wire.Writer by its contracts: what was put, what went wrong.
-/
import Derived.Test.YtmgpllakpgjicaaDoorWireA
import Derived.Test.YtmgpllakpgjicaaDoorElems
import Derived.Lib.AppendStr
import Derived.Test.YtmgpllakpgjicaaDoorWrtC
namespace Go.Proofs.YtmgpllakpgjicaaDoor
open Go.RowKit
set_option maxRecDepth 100000 in
theorem wrText (B g : Nat) (q : St2) (t : List UInt8) (w : World) (h : WrAt w B g q) (hlen : q.1.length ≤ 35184372080000) :
    Calls Tryd.prog 55 #[.pointer (some ⟨g, 0, none⟩), .string (bs t)] w fun e w' => e = .returned (.tuple #[]) ∧ WrAt w' B g (wTxt t q) ∧ Below B w w' ∧ KeepT g w w' := by
  obtain ⟨l, er⟩ := q
  obtain ⟨A, cap, hb, ho⟩ := h.ex
  have hg := h.base
  have hB : B ≤ w.heap.size := by have := hb.lt; omega
  simp only at hb ho hlen
  have hc0 : w.cell? ⟨g, 0, none⟩ = some (.slice A l.length cap) := hb.cell 0
  have hc1 : w.cell? ⟨g, 1, none⟩ = some (.int .i64 (er : Int)) := hb.cell 1
  by_cases he : er = 0
  · subst he
    by_cases hn : t.length ≤ 4096
    · have h9 := num_len9 (n := t.length) (by omega)
      have hx : (txt t).length = (num t.length).length + t.length := by simp [txt]
      have hx' : (txt t).length ≤ 4105 := by omega
      clear hx h9
      go_enter Tryd.func55, Tryd.ntmps55
      go_wp2_with (first
        | (go_at_call 83; refine (puttext_ok [] _ _ (by simp) hn).mono ?_; rintro e w1 ⟨rfl, g1⟩; rw [List.nil_append]; have hb1 := hb.gr g1; have c0 : w1.cell? ⟨g, 0, none⟩ = some (.slice A l.length cap) := hb1.cell 0; have ho1 := own_gr ho g1; have hB1 : B ≤ w1.heap.size := by have := g1.size; omega)
        | (at_builtin; refine wpList_append_str E.u8 Tryd.underlying9 rfl (.tmp 25) (.tmp 26) rfl rfl ho1 rfl (by first | omega | (simp; omega)) hB1 ?_; intro A2 cap2 w2 ho2 hg2; have hb2 := blk_own hb1 ho1 (by decide) hg2; have d0 : w2.cell? ⟨g, 0, none⟩ = some (.slice A l.length cap) := hb2.cell 0; have d1 : w2.cell? ⟨g, 1, none⟩ = some (.int .i64 ((0 : Nat) : Int)) := hb2.cell 1; have f0 := hb2.frozen 0; have f1 := hb2.frozen 1))
      first | go_end0 | refine bodyPost_ret (results_none rfl _ _ _) rfl ?_
      obtain ⟨r1, r2, r3⟩ := wr_done (e' := 0) hg hb1 ho1 ho2 hg2 hB1 (by first | omega | (simp; omega))
      exact ⟨rfl, by simpa [wTxt, hn] using r1, (g1.below.mono hB).trans (by simpa using r2), (KeepT.gr g1).trans (by simpa using r3)⟩
    · go_enter Tryd.func55, Tryd.ntmps55
      go_wp2_with (first
        | (go_at_call 83; refine (puttext_long [] _ _ (by omega)).mono ?_; rintro e w1 ⟨rfl, rfl⟩; have hb1 := hb; have ho1 := ho; have hB1 := hB)
        | (at_builtin; refine wpList_append_str (s := []) E.u8 Tryd.underlying9 rfl (.tmp 25) (.tmp 26) rfl rfl ho1 rfl (by first | omega | (simp; omega)) hB1 ?_; intro A2 cap2 w2 ho2 hg2; rw [List.append_nil] at ho2; have hb2 := blk_own hb1 ho1 (by decide) hg2; have d0 : w2.cell? ⟨g, 0, none⟩ = some (.slice A l.length cap) := hb2.cell 0; have d1 : w2.cell? ⟨g, 1, none⟩ = some (.int .i64 ((0 : Nat) : Int)) := hb2.cell 1; have f0 := hb2.frozen 0; have f1 := hb2.frozen 1))
      first | go_end0 | refine bodyPost_ret (results_none rfl _ _ _) rfl ?_
      obtain ⟨r1, r2, r3⟩ := wr_done (e' := 1) hg hb1 ho1 ho2 hg2 hB1 (by first | omega | (simp; omega))
      exact ⟨rfl, by simpa [wTxt, hn] using r1, by first | exact r2 | simpa using r2, by first | exact r3 | simpa using r3⟩
  · have he' : ((er : Int) == 0) = false := by simpa using he
    have he2 : ((er : Int) != 0) = true := by simpa using he
    go_enter Tryd.func55, Tryd.ntmps55
    go_wp2
    first | go_end0 | refine bodyPost_ret (results_none rfl _ _ _) rfl ?_
    exact ⟨rfl, by simpa [wTxt, he] using h, Below.refl _ _, KeepT.refl _ _⟩

end Go.Proofs.YtmgpllakpgjicaaDoor
