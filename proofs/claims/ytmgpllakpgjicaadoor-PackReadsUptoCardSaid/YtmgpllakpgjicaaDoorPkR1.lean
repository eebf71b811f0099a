/-
  PkR1: contracts and plain laws joined (16 texts). No conditions but those that each states.
-/
import Derived.Test.YtmgpllakpgjicaaDoorObDL
import Derived.Test.YtmgpllakpgjicaaDoorDeltaL
import Derived.Test.YtmgpllakpgjicaaDoorSumL
import Derived.Test.YtmgpllakpgjicaaDoorMapL
import Derived.Test.YtmgpllakpgjicaaDoorDelta
import Derived.Test.YtmgpllakpgjicaaDoorReader
import Derived.Test.YtmgpllakpgjicaaDoorEnd
import Derived.Test.YtmgpllakpgjicaaDoorElems
import Derived.Test.YtmgpllakpgjicaaDoorObD
import Derived.Test.YtmgpllakpgjicaaDoorContS
import Derived.Deep.RegionHeld3
import Derived.Test.YtmgpllakpgjicaaDoorWriter
import Derived.Test.YtmgpllakpgjicaaDoorAgg
import Derived.Deep.OwnRows
import Derived.Test.YtmgpllakpgjicaaDoorRBlock
import Derived.Test.YtmgpllakpgjicaaDoorCurs
import Derived.Test.YtmgpllakpgjicaaDoorRDelta
import Derived.Test.YtmgpllakpgjicaaDoorRObD
import Derived.Deep.CutRange
import Derived.Laws.AppendOwnNone
import Derived.Test.YtmgpllakpgjicaaDoorRowsG
import Derived.ProofKit
import Derived.OpenShut
import Derived.ChangeOld
import Derived.Test.YtmgpllakpgjicaaDoorBlock
import Derived.Test.YtmgpllakpgjicaaDoorCards
import Derived.Test.YtmgpllakpgjicaaDoorTie
import Derived.Deep.DeepHandedRow
import Derived.Lib.LaidTab
namespace Go.Proofs.YtmgpllakpgjicaaDoor
set_option maxRecDepth 100000
open Go.RowKit
set_option linter.unusedVariables false
/-- what stands outside, by its sum: the last of each -/
def outF (out : List (List UInt8)) : List UInt8 → Option (List UInt8) := out.foldl (fun f x => mset f (sha x) x) (fun _ => none)
theorem outF_take (out : List (List UInt8)) (i : Nat) (h : i < out.length) : outF (out.take (i + 1)) = mset (outF (out.take i)) (sha out[i]) out[i] := by
  unfold outF
  rw [List.take_succ_eq_append_getElem h, List.foldl_append]
  rfl
theorem outF_mem : ∀ (out : List (List UInt8)) {id x : List UInt8}, outF out id = some x → x ∈ out := by
  intro out
  have key : ∀ (l : List (List UInt8)) (f : List UInt8 → Option (List UInt8)) (id x : List UInt8), l.foldl (fun f x => mset f (sha x) x) f id = some x → x ∈ l ∨ f id = some x := by
    intro l
    induction l with
    | nil => intro f id x h; exact .inr h
    | cons a r ih =>
      intro f id x h
      rcases ih _ id x h with h | h
      · exact .inl (List.mem_cons_of_mem _ h)
      · simp only [mset] at h
        split at h
        · injection h with h; subst h; exact .inl (by simp)
        · exact .inr h
  intro id x h
  rcases key out _ id x h with h | h
  · exact h
  · cases h

/-- a delta behind its base's place -/
def pkT (q : St) (base : List UInt8) (depth : Nat) : (List UInt8 × Nat × Nat) × St :=
  if (aftT q).2 ≠ 0 then (([], 0, 2), aftT q) else if 8 ≤ depth then (([], 0, 10), aftT q) else (((applyR base (nxtT q)).1, depth + 1, (applyR base (nxtT q)).2), aftT q)
def pkW (q : St) : (List UInt8 × Nat × Nat) × St :=
  if (aftB (nxtN q : Int) (aftN q)).2 ≠ 0 then (([], 0, 2), aftB (nxtN q : Int) (aftN q)) else ((nxtB (nxtN q : Int) (aftN q), 0, 0), aftB (nxtN q : Int) (aftN q))
def pkE (L : List (List UInt8 × Nat)) (q : St) : (List UInt8 × Nat × Nat) × St :=
  if (aftN q).2 ≠ 0 then (([], 0, 2), aftN q) else (match L[nxtN q]? with | none => (([], 0, 3), aftN q) | some x => pkT (aftN q) x.1 x.2)
def pkO (F : List UInt8 → Option (List UInt8)) (q : St) : (List UInt8 × Nat × Nat) × St :=
  if (aftB 32 q).2 ≠ 0 then (([], 0, 2), aftB 32 q) else (match F (nxtB 32 q) with | none => (([], 0, 11), aftB 32 q) | some x => pkT (aftB 32 q) x 0)
/-- the next object: its text, how deep it stands, what went wrong -/
def pk1 (F : List UInt8 → Option (List UInt8)) (L : List (List UInt8 × Nat)) (q : St) : (List UInt8 × Nat × Nat) × St :=
  if (aftN q).2 ≠ 0 ∨ 2 < nxtN q then (([], 0, 2), aftN q)
  else if nxtN q = 0 then pkW (aftN q)
  else if nxtN q = 1 then pkE L (aftN q)
  else pkO F (aftN q)
def pkGo (F : List UInt8 → Option (List UInt8)) : Nat → List (List UInt8 × Nat) → St → List (List UInt8) × Int
  | 0, L, q => if q.1.length = 0 then (L.map (·.1), 0) else ([], 2)
  | n + 1, L, q =>
    if (pk1 F L q).1.2.2 ≠ 0 then ([], ((pk1 F L q).1.2.2 : Int))
    else if (obD (pk1 F L q).1.1).2 ≠ 0 then ([], (obD (pk1 F L q).1.1).2)
    else if (pk1 F L q).1.1 ∈ L.map (·.1) then ([], 8)
    else pkGo F n (L ++ [((pk1 F L q).1.1, (pk1 F L q).1.2.1)]) (pk1 F L q).2
/-- P5.3 -/
def pkR (b : List UInt8) (out : List (List UInt8)) : List (List UInt8) × Int :=
  if b.length < 33 ∨ b.take 1 ≠ [80] then ([], 2)
  else if sha (b.take (b.length - 32)) ≠ b.drop (b.length - 32) then ([], 5)
  else if (aftN (sub b 1 (b.length - 32), 0)).2 ≠ 0 then ([], 2)
  else if 400 < nxtN (sub b 1 (b.length - 32), 0) then ([], 6)
  else pkGo (outF out) (nxtN (sub b 1 (b.length - 32), 0)) [] (aftN (sub b 1 (b.length - 32), 0))

/-- what is known of what has been read -/
structure PkSz (L : List (List UInt8 × Nat)) : Prop where
  len : ∀ x ∈ L, x.1.length ≤ 8192
  deep : ∀ x ∈ L, x.2 ≤ 8
theorem obD_len {s : List UInt8} (h : (obD s).2 = 0) : s.length ≤ 8192 := by
  unfold obD at h
  split at h
  · cases h
  · omega
structure PkOk (k : Nat) (r : (List UInt8 × Nat × Nat) × St) : Prop where
  deep : r.1.2.1 ≤ 8
  len : r.1.1.length ≤ k
  left : r.2.1.length ≤ k
  err : r.1.2.2 ≤ 11
theorem pkT_ok {q : St} {base : List UInt8} {depth k : Nat} (hq : q.1.length ≤ k) (h8 : 8192 ≤ k) : PkOk k (pkT q base depth) := by
  have h1 := aftT_leO q
  have h3 := applyR_err base (nxtT q)
  unfold pkT
  split
  · exact ⟨by simp, by simp, by simp only; omega, by simp⟩
  · split
    · exact ⟨by simp, by simp, by simp only; omega, by simp⟩
    · exact ⟨by simp only; omega, by simp only; omega, by simp only; omega, h3.2⟩
theorem pkW_ok {q : St} {k : Nat} (hq : q.1.length ≤ k) : PkOk k (pkW q) := by
  have h1 := aftN_leO q
  have h2 := aftB_leO (nxtN q : Int) (aftN q)
  have h3 := nxtB_len (nxtN q : Int) (aftN q)
  unfold pkW
  split
  · exact ⟨by simp, by simp, by simp only; omega, by simp⟩
  · exact ⟨by simp, by simp only; omega, by simp only; omega, by simp⟩
theorem pkE_ok {L : List (List UInt8 × Nat)} {q : St} {k : Nat} (hq : q.1.length ≤ k) (h8 : 8192 ≤ k) : PkOk k (pkE L q) := by
  have h1 := aftN_leO q
  unfold pkE
  split
  · exact ⟨by simp, by simp, by simp only; omega, by simp⟩
  · split
    · exact ⟨by simp, by simp, by simp only; omega, by simp⟩
    · exact pkT_ok (by omega) h8
theorem pkO_ok {F : List UInt8 → Option (List UInt8)} {q : St} {k : Nat} (hq : q.1.length ≤ k) (h8 : 8192 ≤ k) : PkOk k (pkO F q) := by
  have h1 := aftB_leO 32 q
  unfold pkO
  split
  · exact ⟨by simp, by simp, by simp only; omega, by simp⟩
  · split
    · exact ⟨by simp, by simp, by simp only; omega, by simp⟩
    · exact pkT_ok (by omega) h8
theorem pk1_ok {F : List UInt8 → Option (List UInt8)} {L : List (List UInt8 × Nat)} {q : St} {k : Nat} (hq : q.1.length ≤ k) (h8 : 8192 ≤ k) : PkOk k (pk1 F L q) := by
  have h1 := aftN_leO q
  unfold pk1
  split
  · exact ⟨by simp, by simp, by simp only; omega, by simp⟩
  · split
    · exact pkW_ok (by omega)
    · split
      · exact pkE_ok (by omega) h8
      · exact pkO_ok (by omega) h8
theorem PkSz.add {L : List (List UInt8 × Nat)} (h : PkSz L) {s : List UInt8} {d : Nat} (hs : (obD s).2 = 0) (hd : d ≤ 8) : PkSz (L ++ [(s, d)]) := by
  refine ⟨fun x hx => ?_, fun x hx => ?_⟩
  · rcases List.mem_append.1 hx with hx | hx
    · exact h.len x hx
    · simp only [List.mem_singleton] at hx; subst hx; exact obD_len hs
  · rcases List.mem_append.1 hx with hx | hx
    · exact h.deep x hx
    · simp only [List.mem_singleton] at hx; subst hx; exact hd
theorem pkGo_le (F : List UInt8 → Option (List UInt8)) : ∀ (n : Nat) (L : List (List UInt8 × Nat)) (q : St), (pkGo F n L q).1.length ≤ L.length + n
  | 0, L, q => by
    rw [pkGo]
    split <;> simp
  | n + 1, L, q => by
    rw [pkGo]
    split
    · simp
    · split
      · simp
      · split
        · simp
        · have := pkGo_le F n (L ++ [((pk1 F L q).1.1, (pk1 F L q).1.2.1)]) (pk1 F L q).2
          simp only [List.length_append, List.length_cons, List.length_nil] at this
          omega
theorem pkR_le (b : List UInt8) (out : List (List UInt8)) : (pkR b out).1.length ≤ 140737488355328 := by
  unfold pkR
  split
  · simp
  · split
    · simp
    · split
      · simp
      · split
        · simp
        · have := pkGo_le (outF out) (nxtN (sub b 1 (b.length - 32), 0)) [] (aftN (sub b 1 (b.length - 32), 0))
          simp only [List.length_nil] at this
          omega
end Go.Proofs.YtmgpllakpgjicaaDoor

namespace Go.Proofs.YtmgpllakpgjicaaDoor
set_option maxRecDepth 100000
open Go.RowKit
set_option linter.unusedVariables false
theorem M.ss : MapE 70 9 9 (α := List UInt8) Lit.string (fun x => .string (bs x)) (fun x => x.length ≤ maxLen) [] :=
  mapE_str Tryd.underlying70 Tryd.underlying9 Tryd.underlying9 (fun w => by kernel_rfl)
/-- two rows side by side: the texts and how deep they stand -/
structure PkRows (w : World) (g : Nat) (A B : Option Addr) (n : Nat) (L : List (List UInt8 × Nat)) : Prop where
  txt : StrRow w A n (L.map (·.1))
  deep : Row w 1 B n (L.map fun x => intV (x.2 : Int))
  na : ∀ b off, A = some ⟨b, off, none⟩ → b ≠ g
  nb : ∀ b off, B = some ⟨b, off, none⟩ → b ≠ g
theorem PkRows.only {w w' : World} {g n : Nat} {A B : Option Addr} {L : List (List UInt8 × Nat)} (h : PkRows w g A B n L) (hg : w.grownBy w' (some g)) : PkRows w' g A B n L :=
  ⟨h.txt.only hg (fun _ b off e => h.na b off e), h.deep.only hg (fun _ b off e => h.nb b off e), h.na, h.nb⟩
theorem PkRows.len {w : World} {g n : Nat} {A B : Option Addr} {L : List (List UInt8 × Nat)} (h : PkRows w g A B n L) : L.length = n := by have := h.txt.len; simpa using this
theorem PkRows.cell {w : World} {g n : Nat} {A B : Option Addr} {L : List (List UInt8 × Nat)} (h : PkRows w g A B n L) {i : Nat} (hi : i < L.length) :
    ∃ b off b' off', A = some ⟨b, off, none⟩ ∧ B = some ⟨b', off', none⟩ ∧ w.cell? ⟨b, off + i, none⟩ = some (.string (bs L[i].1)) ∧ w.cell? ⟨b', off' + i, none⟩ = some (.int .i64 (L[i].2 : Int)) := by
  have hn := h.len
  obtain ⟨b, off, hA, h1⟩ := h.txt.cell (i := i) (by simpa using hi)
  obtain ⟨b', off', hB, hl, h2⟩ := h.deep.cell1 (i := i) (by omega)
  exact ⟨b, off, b', off', hA, hB, by simpa using h1, by simpa [intV] using h2⟩

set_option maxHeartbeats 16000000 in
theorem pkOne_any (g : Nat) (q : St) (L : List (List UInt8 × Nat)) (A B : Option Addr) (n c c' m mc : Nat) (F : List UInt8 → Option (List UInt8)) (w : World)
    (hr : RdAt 94 w g q) (hl : PkRows w g A B n L) (hm : MapAt 9 9 Lit.string w m mc F) (hmg : m ≠ g) (hL : PkSz L) (hF : ∀ id x, F id = some x → x.length ≤ 1048576) (hq : q.1.length ≤ 35184372088832) (hn : n ≤ 1099511627776) :
    Calls Tryd.prog 49 #[.pointer (some ⟨g, 0, none⟩), .slice A n c, .slice B n c', .map (some m)] w fun e w' => e = .returned (.tuple #[.string (bs (pk1 F L q).1.1), .int .i64 ((pk1 F L q).1.2.1 : Int), .int .i64 ((pk1 F L q).1.2.2 : Int)]) ∧ RdAt 94 w' g (pk1 F L q).2 ∧ w.grownBy w' (some g) := by
  have hln := hl.len
  obtain ⟨V, hV⟩ : ∃ V, V = pk1 F L q := ⟨_, rfl⟩
  obtain ⟨how, hhow⟩ : ∃ x, x = nxtN q := ⟨_, rfl⟩
  obtain ⟨⟨s1, e1⟩, hq1⟩ : ∃ x, x = aftN q := ⟨_, rfl⟩
  have HV : Sec (V = if e1 ≠ 0 ∨ 2 < how then (([], 0, 2), (s1, e1)) else if how = 0 then pkW (s1, e1) else if how = 1 then pkE L (s1, e1) else pkO F (s1, e1)) := sec (by rw [hV, hhow]; unfold pk1; rw [← hq1])
  have hs1 : s1.length ≤ 35184372088832 := by have := aftN_leO q; rw [← hq1] at this; simp only at this; omega
  have hhl : how < 4611686018427387904 := by rw [hhow]; exact nxtN_ltO q
  have H1 : Sec (Calls Tryd.prog 33 #[.pointer (some ⟨g, 0, none⟩)] w fun e w' => e = .returned (.int .i64 (how : Int)) ∧ RdAt 94 w' g (s1, e1) ∧ w.grownBy w' (some g)) := sec (by rw [hhow, hq1]; exact rdNumber g q w hr)
  have HBd : Sec (∀ q W, RdAt 94 W g q → Calls Tryd.prog 35 #[.pointer (some ⟨g, 0, none⟩)] W fun e w' => e = .returned (.int .i64 (q.2 : Int)) ∧ W = w') := sec (fun q W h => rdBad g q W h)
  have HN := sec (fun q W (h : RdAt 94 W g q) => rdNumber g q W h)
  have HRW := sec hl
  have HM := sec hm
  have HLS := sec hL
  have HFS := sec hF
  rw [← hV]
  clear hV hhow hq1 hr hl hm hL hF hq

  by_cases he1 : e1 = 0
  case neg =>
    have qb : ((e1 : Int) != 0) = true := by rw [bne_iff_ne]; omega
    have HX : Sec (V = (([], 0, 2), (s1, e1))) := sec (by rw [HV.out, if_pos (.inl he1)])
    clear he1
    go_enter Tryd.func49, Tryd.ntmps49
    go_wp2_with (first | (go_at_call 33; (with_reducible refine Calls.mono H1.out ?_); rintro e w1 ⟨rfl, d1, g1⟩) | (go_at_call 35; (with_reducible refine Calls.mono (HBd.out _ _ d1) ?_); rintro e wz ⟨rfl, rfl⟩; dsimp only))
    go_ret3
    rw [HX.out]; exact ⟨rfl, d1, g1⟩
  subst he1
  by_cases hh2 : 2 < how
  · have qh : (2 : Int) < (how : Int) := by omega
    have HX : Sec (V = (([], 0, 2), (s1, 0))) := sec (by rw [HV.out, if_pos (.inr hh2)])
    clear hh2
    go_enter Tryd.func49, Tryd.ntmps49
    go_wp2_with (first | (go_at_call 33; (with_reducible refine Calls.mono H1.out ?_); rintro e w1 ⟨rfl, d1, g1⟩) | (go_at_call 35; (with_reducible refine Calls.mono (HBd.out _ _ d1) ?_); rintro e wz ⟨rfl, rfl⟩; dsimp only))
    go_ret3
    rw [HX.out]; exact ⟨rfl, d1, g1⟩
  have HV2 : Sec (V = if how = 0 then pkW (s1, 0) else if how = 1 then pkE L (s1, 0) else pkO F (s1, 0)) := sec (by rw [HV.out, if_neg (by omega)])
  clear HV
  by_cases h0 : how = 0
  · subst h0
    obtain ⟨k, hk⟩ : ∃ x, x = nxtN (s1, 0) := ⟨_, rfl⟩
    obtain ⟨q2, hq2⟩ : ∃ x, x = aftN (s1, 0) := ⟨_, rfl⟩
    obtain ⟨x, hx⟩ : ∃ x, x = nxtB (k : Int) q2 := ⟨_, rfl⟩
    obtain ⟨⟨s3, e3⟩, hq3⟩ : ∃ x, x = aftB (k : Int) q2 := ⟨_, rfl⟩
    have hkl : k < 4611686018427387904 := by rw [hk]; exact nxtN_ltO _
    have HV3 : Sec (V = if e3 ≠ 0 then (([], 0, 2), (s3, e3)) else ((x, 0, 0), (s3, e3))) := sec (by rw [HV2.out, if_pos rfl]; unfold pkW; rw [← hk, ← hq2, ← hx, ← hq3])
    have H2 : Sec (∀ W, RdAt 94 W g (s1, 0) → Calls Tryd.prog 33 #[.pointer (some ⟨g, 0, none⟩)] W fun e w' => e = .returned (.int .i64 (k : Int)) ∧ RdAt 94 w' g q2 ∧ W.grownBy w' (some g)) := sec (fun W h => by rw [hk, hq2]; exact rdNumber g (s1, 0) W h)
    have H3 : Sec (∀ W, RdAt 94 W g q2 → Calls Tryd.prog 36 #[.pointer (some ⟨g, 0, none⟩), .int .i64 (k : Int)] W fun e w' => e = .returned (.string (bs x)) ∧ RdAt 94 w' g (s3, e3) ∧ W.grownBy w' (some g)) := sec (fun W h => by rw [hx, hq3]; exact rdBytes g q2 (k : Int) W h (by omega))
    clear hk hq2 hx hq3 HV2
    by_cases he3 : e3 = 0
    · subst he3
      have HX : Sec (V = ((x, 0, 0), (s3, 0))) := sec (by rw [HV3.out, if_neg (by simp)])
      go_enter Tryd.func49, Tryd.ntmps49
      go_wp2_with (first | (go_at_call 35; (with_reducible refine Calls.mono (HBd.out _ _ d3) ?_); rintro e wz ⟨rfl, rfl⟩; dsimp only) | (go_at_call 33; (with_reducible refine Calls.mono H1.out ?_); rintro e w1 ⟨rfl, d1, g1⟩) | (go_at_call 33; (with_reducible refine Calls.mono (H2.out _ d1) ?_); rintro e w2 ⟨rfl, d2, g2⟩; have G2 := only_trans g1 g2) | (go_at_call 36; (with_reducible refine Calls.mono (H3.out _ d2) ?_); rintro e w3 ⟨rfl, d3, g3⟩; have G3 := only_trans G2 g3) | (go_at_call 35; (with_reducible refine Calls.mono (HBd.out _ _ d1) ?_); rintro e wz ⟨rfl, rfl⟩; dsimp only))
      go_ret3
      rw [HX.out]; exact ⟨rfl, d3, G3⟩
    · have qb : ((e3 : Int) != 0) = true := by rw [bne_iff_ne]; omega
      have HX : Sec (V = (([], 0, 2), (s3, e3))) := sec (by rw [HV3.out, if_pos he3])
      clear he3
      go_enter Tryd.func49, Tryd.ntmps49
      go_wp2_with (first | (go_at_call 35; (with_reducible refine Calls.mono (HBd.out _ _ d3) ?_); rintro e wz ⟨rfl, rfl⟩; dsimp only) | (go_at_call 33; (with_reducible refine Calls.mono H1.out ?_); rintro e w1 ⟨rfl, d1, g1⟩) | (go_at_call 33; (with_reducible refine Calls.mono (H2.out _ d1) ?_); rintro e w2 ⟨rfl, d2, g2⟩; have G2 := only_trans g1 g2) | (go_at_call 36; (with_reducible refine Calls.mono (H3.out _ d2) ?_); rintro e w3 ⟨rfl, d3, g3⟩; have G3 := only_trans G2 g3) | (go_at_call 35; (with_reducible refine Calls.mono (HBd.out _ _ d1) ?_); rintro e wz ⟨rfl, rfl⟩; dsimp only))
      go_ret3
      rw [HX.out]; exact ⟨rfl, d3, G3⟩
  have q0 : ((how : Int) == 0) = false := by rw [beq_eq_false_iff_ne]; omega
  by_cases h1 : how = 1
  · subst h1
    obtain ⟨k, hk⟩ : ∃ x, x = nxtN (s1, 0) := ⟨_, rfl⟩
    obtain ⟨⟨s2, e2⟩, hq2⟩ : ∃ x, x = aftN (s1, 0) := ⟨_, rfl⟩
    have hkl : k < 4611686018427387904 := by rw [hk]; exact nxtN_ltO _
    have hs2 : s2.length ≤ 35184372088832 := by have := aftN_leO (s1, 0); rw [← hq2] at this; simp only at this; omega
    have HV3 : Sec (V = if e2 ≠ 0 then (([], 0, 2), (s2, e2)) else (match L[k]? with | none => (([], 0, 3), (s2, e2)) | some x => pkT (s2, e2) x.1 x.2)) := sec (by rw [HV2.out, if_neg (by simp), if_pos rfl]; unfold pkE; rw [← hk, ← hq2]; try rfl)
    have H2 : Sec (∀ W, RdAt 94 W g (s1, 0) → Calls Tryd.prog 33 #[.pointer (some ⟨g, 0, none⟩)] W fun e w' => e = .returned (.int .i64 (k : Int)) ∧ RdAt 94 w' g (s2, e2) ∧ W.grownBy w' (some g)) := sec (fun W h => by rw [hk, hq2]; exact rdNumber g (s1, 0) W h)
    clear hk hq2 HV2
    by_cases he2 : e2 = 0
    case neg =>
      have qb : ((e2 : Int) != 0) = true := by rw [bne_iff_ne]; omega
      have HX : Sec (V = (([], 0, 2), (s2, e2))) := sec (by rw [HV3.out, if_pos he2])
      clear he2
      go_enter Tryd.func49, Tryd.ntmps49
      go_wp2_with (first | (go_at_call 35; (with_reducible refine Calls.mono (HBd.out _ _ d2) ?_); rintro e wz ⟨rfl, rfl⟩; dsimp only) | (go_at_call 33; (with_reducible refine Calls.mono H1.out ?_); rintro e w1 ⟨rfl, d1, g1⟩) | (go_at_call 33; (with_reducible refine Calls.mono (H2.out _ d1) ?_); rintro e w2 ⟨rfl, d2, g2⟩; have G2 := only_trans g1 g2) | (go_at_call 35; (with_reducible refine Calls.mono (HBd.out _ _ d1) ?_); rintro e wz ⟨rfl, rfl⟩; dsimp only))
      go_ret3
      rw [HX.out]; exact ⟨rfl, d2, G2⟩
    subst he2
    by_cases hkn : n ≤ k
    · have qk : (n : Int) ≤ (k : Int) := by omega
      have HX : Sec (V = (([], 0, 3), (s2, 0))) := sec (by rw [HV3.out, if_neg (by simp), List.getElem?_eq_none (by omega)])
      clear hkn
      go_enter Tryd.func49, Tryd.ntmps49
      go_wp2_with (first | (go_at_call 35; (with_reducible refine Calls.mono (HBd.out _ _ d2) ?_); rintro e wz ⟨rfl, rfl⟩; dsimp only) | (go_at_call 33; (with_reducible refine Calls.mono H1.out ?_); rintro e w1 ⟨rfl, d1, g1⟩) | (go_at_call 33; (with_reducible refine Calls.mono (H2.out _ d1) ?_); rintro e w2 ⟨rfl, d2, g2⟩; have G2 := only_trans g1 g2) | (go_at_call 35; (with_reducible refine Calls.mono (HBd.out _ _ d1) ?_); rintro e wz ⟨rfl, rfl⟩; dsimp only))
      go_ret3
      rw [HX.out]; exact ⟨rfl, d2, G2⟩
    have qk : ¬ (n : Int) ≤ (k : Int) := by omega
    have hkL : k < L.length := by omega
    have HCl := sec (fun W (h : PkRows W g A B n L) => h.cell hkL)
    have hbl := HLS.out.len _ (List.getElem_mem hkL)
    have hde := HLS.out.deep _ (List.getElem_mem hkL)
    have HV4 : Sec (V = pkT (s2, 0) L[k].1 L[k].2) := sec (by rw [HV3.out, if_neg (by simp), List.getElem?_eq_getElem hkL])
    obtain ⟨y, hy⟩ : ∃ y, y = L[k] := ⟨_, rfl⟩
    rw [← hy] at HV4 HCl hbl hde
    clear hy HV3 hkn
    obtain ⟨bse, dp⟩ := y
    simp only at HV4 HCl hbl hde
    have hk9 : k ≤ 1099511627776 := by omega
    clear hkL
    obtain ⟨T, hT⟩ : ∃ x, x = nxtT (s2, 0) := ⟨_, rfl⟩
    obtain ⟨⟨s4, e4⟩, hq4⟩ : ∃ x, x = aftT (s2, 0) := ⟨_, rfl⟩
    have hTl : T.length ≤ 35184372088832 := by have := nxtT_leO (s2, 0); rw [← hT] at this; simp only at this; omega
    have HV5 : Sec (V = if e4 ≠ 0 then (([], 0, 2), (s4, e4)) else if 8 ≤ dp then (([], 0, 10), (s4, e4)) else (((applyR bse T).1, dp + 1, (applyR bse T).2), (s4, e4))) := sec (by rw [HV4.out]; unfold pkT; rw [← hT, ← hq4])
    have H4 : Sec (∀ W, RdAt 94 W g (s2, 0) → Calls Tryd.prog 34 #[.pointer (some ⟨g, 0, none⟩)] W fun e w' => e = .returned (.string (bs T)) ∧ RdAt 94 w' g (s4, e4) ∧ W.grownBy w' (some g)) := sec (fun W h => by rw [hT, hq4]; exact rdText g (s2, 0) W h)
    obtain ⟨Z, hZ⟩ : ∃ Z, Z = applyR bse T := ⟨_, rfl⟩
    have HA : Sec (∀ W, Calls Tryd.prog 79 #[.string (bs bse), .string (bs T)] W fun e w' => e = .returned (.tuple #[.string (bs Z.1), .int .i64 (Z.2 : Int)]) ∧ Gr W w') := sec (fun W => by rw [hZ]; exact dApply bse T W (by omega) hTl)
    rw [← hZ] at HV5
    clear hT hq4 hZ HV4
    by_cases he4 : e4 = 0
    case neg =>
      have qb : ((e4 : Int) != 0) = true := by rw [bne_iff_ne]; omega
      have HX : Sec (V = (([], 0, 2), (s4, e4))) := sec (by rw [HV5.out, if_pos he4])
      clear he4 hde
      go_enter Tryd.func49, Tryd.ntmps49
      go_upto_region 23 with (first | (go_at_call 35; (with_reducible refine Calls.mono (HBd.out _ _ d4) ?_); rintro e wz ⟨rfl, rfl⟩; dsimp only) | (go_at_call 34; (with_reducible refine Calls.mono (H4.out _ (d2.gr ((Gr.refl _).drewN _))) ?_); rintro e w4 ⟨rfl, d4, g4⟩; have G4 := only_trans (only_trans G2 (only_gr ((Gr.refl _).drewN _) (some g))) g4) | (go_at_call 79; (with_reducible refine Calls.mono (HA.out _) ?_); rintro e w5 ⟨rfl, g5⟩; have d5 := d4.gr g5; have G5 := only_trans G4 (only_gr g5 (some g))) | (go_at_call 35; (with_reducible refine Calls.mono (HBd.out _ _ d2) ?_); rintro e wz ⟨rfl, rfl⟩; dsimp only) | (go_at_call 33; (with_reducible refine Calls.mono H1.out ?_); rintro e w1 ⟨rfl, d1, g1⟩) | (go_at_call 33; (with_reducible refine Calls.mono (H2.out _ d1) ?_); rintro e w2 ⟨rfl, d2, g2⟩; have G2 := only_trans g1 g2; obtain ⟨b, off, b', off', hAA, hBB, z1, z2⟩ := HCl.out _ (HRW.out.only G2); subst hAA; subst hBB) | (go_at_call 35; (with_reducible refine Calls.mono (HBd.out _ _ d1) ?_); rintro e wz ⟨rfl, rfl⟩; dsimp only))
      go_quiet (fail)
      go_wp2_with (first | (go_at_call 35; (with_reducible refine Calls.mono (HBd.out _ _ d4) ?_); rintro e wz ⟨rfl, rfl⟩; dsimp only) | (go_at_call 34; (with_reducible refine Calls.mono (H4.out _ (d2.gr ((Gr.refl _).drewN _))) ?_); rintro e w4 ⟨rfl, d4, g4⟩; have G4 := only_trans (only_trans G2 (only_gr ((Gr.refl _).drewN _) (some g))) g4) | (go_at_call 79; (with_reducible refine Calls.mono (HA.out _) ?_); rintro e w5 ⟨rfl, g5⟩; have d5 := d4.gr g5; have G5 := only_trans G4 (only_gr g5 (some g))) | (go_at_call 35; (with_reducible refine Calls.mono (HBd.out _ _ d2) ?_); rintro e wz ⟨rfl, rfl⟩; dsimp only) | (go_at_call 33; (with_reducible refine Calls.mono H1.out ?_); rintro e w1 ⟨rfl, d1, g1⟩) | (go_at_call 33; (with_reducible refine Calls.mono (H2.out _ d1) ?_); rintro e w2 ⟨rfl, d2, g2⟩; have G2 := only_trans g1 g2; obtain ⟨b, off, b', off', hAA, hBB, z1, z2⟩ := HCl.out _ (HRW.out.only G2); subst hAA; subst hBB) | (go_at_call 35; (with_reducible refine Calls.mono (HBd.out _ _ d1) ?_); rintro e wz ⟨rfl, rfl⟩; dsimp only))
      go_ret3
      rw [HX.out]; exact ⟨rfl, d4, G4⟩
    subst he4
    by_cases h8 : 8 ≤ dp
    · have q8 : (8 : Int) ≤ (dp : Int) := by omega
      have HX : Sec (V = (([], 0, 10), (s4, 0))) := sec (by rw [HV5.out, if_neg (by simp), if_pos h8])
      clear h8 hde
      go_enter Tryd.func49, Tryd.ntmps49
      go_upto_region 23 with (first | (go_at_call 35; (with_reducible refine Calls.mono (HBd.out _ _ d4) ?_); rintro e wz ⟨rfl, rfl⟩; dsimp only) | (go_at_call 34; (with_reducible refine Calls.mono (H4.out _ (d2.gr ((Gr.refl _).drewN _))) ?_); rintro e w4 ⟨rfl, d4, g4⟩; have G4 := only_trans (only_trans G2 (only_gr ((Gr.refl _).drewN _) (some g))) g4) | (go_at_call 79; (with_reducible refine Calls.mono (HA.out _) ?_); rintro e w5 ⟨rfl, g5⟩; have d5 := d4.gr g5; have G5 := only_trans G4 (only_gr g5 (some g))) | (go_at_call 35; (with_reducible refine Calls.mono (HBd.out _ _ d2) ?_); rintro e wz ⟨rfl, rfl⟩; dsimp only) | (go_at_call 33; (with_reducible refine Calls.mono H1.out ?_); rintro e w1 ⟨rfl, d1, g1⟩) | (go_at_call 33; (with_reducible refine Calls.mono (H2.out _ d1) ?_); rintro e w2 ⟨rfl, d2, g2⟩; have G2 := only_trans g1 g2; obtain ⟨b, off, b', off', hAA, hBB, z1, z2⟩ := HCl.out _ (HRW.out.only G2); subst hAA; subst hBB) | (go_at_call 35; (with_reducible refine Calls.mono (HBd.out _ _ d1) ?_); rintro e wz ⟨rfl, rfl⟩; dsimp only))
      go_quiet (fail)
      go_wp2_with (first | (go_at_call 35; (with_reducible refine Calls.mono (HBd.out _ _ d4) ?_); rintro e wz ⟨rfl, rfl⟩; dsimp only) | (go_at_call 34; (with_reducible refine Calls.mono (H4.out _ (d2.gr ((Gr.refl _).drewN _))) ?_); rintro e w4 ⟨rfl, d4, g4⟩; have G4 := only_trans (only_trans G2 (only_gr ((Gr.refl _).drewN _) (some g))) g4) | (go_at_call 79; (with_reducible refine Calls.mono (HA.out _) ?_); rintro e w5 ⟨rfl, g5⟩; have d5 := d4.gr g5; have G5 := only_trans G4 (only_gr g5 (some g))) | (go_at_call 35; (with_reducible refine Calls.mono (HBd.out _ _ d2) ?_); rintro e wz ⟨rfl, rfl⟩; dsimp only) | (go_at_call 33; (with_reducible refine Calls.mono H1.out ?_); rintro e w1 ⟨rfl, d1, g1⟩) | (go_at_call 33; (with_reducible refine Calls.mono (H2.out _ d1) ?_); rintro e w2 ⟨rfl, d2, g2⟩; have G2 := only_trans g1 g2; obtain ⟨b, off, b', off', hAA, hBB, z1, z2⟩ := HCl.out _ (HRW.out.only G2); subst hAA; subst hBB) | (go_at_call 35; (with_reducible refine Calls.mono (HBd.out _ _ d1) ?_); rintro e wz ⟨rfl, rfl⟩; dsimp only))
      go_ret3
      rw [HX.out]; exact ⟨rfl, d4, G4⟩
    · have q8 : ¬ (8 : Int) ≤ (dp : Int) := by omega
      have HX : Sec (V = ((Z.1, dp + 1, Z.2), (s4, 0))) := sec (by rw [HV5.out, if_neg (by simp), if_neg h8])
      clear h8
      go_enter Tryd.func49, Tryd.ntmps49
      go_upto_region 23 with (first | (go_at_call 35; (with_reducible refine Calls.mono (HBd.out _ _ d4) ?_); rintro e wz ⟨rfl, rfl⟩; dsimp only) | (go_at_call 34; (with_reducible refine Calls.mono (H4.out _ (d2.gr ((Gr.refl _).drewN _))) ?_); rintro e w4 ⟨rfl, d4, g4⟩; have G4 := only_trans (only_trans G2 (only_gr ((Gr.refl _).drewN _) (some g))) g4) | (go_at_call 79; (with_reducible refine Calls.mono (HA.out _) ?_); rintro e w5 ⟨rfl, g5⟩; have d5 := d4.gr g5; have G5 := only_trans G4 (only_gr g5 (some g))) | (go_at_call 35; (with_reducible refine Calls.mono (HBd.out _ _ d2) ?_); rintro e wz ⟨rfl, rfl⟩; dsimp only) | (go_at_call 33; (with_reducible refine Calls.mono H1.out ?_); rintro e w1 ⟨rfl, d1, g1⟩) | (go_at_call 33; (with_reducible refine Calls.mono (H2.out _ d1) ?_); rintro e w2 ⟨rfl, d2, g2⟩; have G2 := only_trans g1 g2; obtain ⟨b, off, b', off', hAA, hBB, z1, z2⟩ := HCl.out _ (HRW.out.only G2); subst hAA; subst hBB) | (go_at_call 35; (with_reducible refine Calls.mono (HBd.out _ _ d1) ?_); rintro e wz ⟨rfl, rfl⟩; dsimp only))
      go_quiet (fail)
      go_wp2_with (first | (go_at_call 35; (with_reducible refine Calls.mono (HBd.out _ _ d4) ?_); rintro e wz ⟨rfl, rfl⟩; dsimp only) | (go_at_call 34; (with_reducible refine Calls.mono (H4.out _ (d2.gr ((Gr.refl _).drewN _))) ?_); rintro e w4 ⟨rfl, d4, g4⟩; have G4 := only_trans (only_trans G2 (only_gr ((Gr.refl _).drewN _) (some g))) g4) | (go_at_call 79; (with_reducible refine Calls.mono (HA.out _) ?_); rintro e w5 ⟨rfl, g5⟩; have d5 := d4.gr g5; have G5 := only_trans G4 (only_gr g5 (some g))) | (go_at_call 35; (with_reducible refine Calls.mono (HBd.out _ _ d2) ?_); rintro e wz ⟨rfl, rfl⟩; dsimp only) | (go_at_call 33; (with_reducible refine Calls.mono H1.out ?_); rintro e w1 ⟨rfl, d1, g1⟩) | (go_at_call 33; (with_reducible refine Calls.mono (H2.out _ d1) ?_); rintro e w2 ⟨rfl, d2, g2⟩; have G2 := only_trans g1 g2; obtain ⟨b, off, b', off', hAA, hBB, z1, z2⟩ := HCl.out _ (HRW.out.only G2); subst hAA; subst hBB) | (go_at_call 35; (with_reducible refine Calls.mono (HBd.out _ _ d1) ?_); rintro e wz ⟨rfl, rfl⟩; dsimp only))
      go_ret3
      rw [HX.out]; exact ⟨rfl, d5, G5⟩
  have q1 : ((how : Int) == 1) = false := by rw [beq_eq_false_iff_ne]; omega
  obtain ⟨id, hid⟩ : ∃ x, x = nxtB 32 (s1, 0) := ⟨_, rfl⟩
  obtain ⟨⟨s2, e2⟩, hq2⟩ : ∃ x, x = aftB 32 (s1, 0) := ⟨_, rfl⟩
  have hidl : id.length ≤ maxLen := by have := nxtB_leO (s1, 0); rw [← hid] at this; unfold maxLen; omega
  have hs2 : s2.length ≤ 35184372088832 := by have := aftB_leO 32 (s1, 0); rw [← hq2] at this; simp only at this; omega
  have HV3 : Sec (V = if e2 ≠ 0 then (([], 0, 2), (s2, e2)) else (match F id with | none => (([], 0, 11), (s2, e2)) | some x => pkT (s2, e2) x 0)) := sec (by rw [HV2.out, if_neg h0, if_neg h1]; unfold pkO; rw [← hid, ← hq2]; try rfl)
  have H2 : Sec (∀ W, RdAt 94 W g (s1, 0) → Calls Tryd.prog 36 #[.pointer (some ⟨g, 0, none⟩), .int .i64 32] W fun e w' => e = .returned (.string (bs id)) ∧ RdAt 94 w' g (s2, e2) ∧ W.grownBy w' (some g)) := sec (fun W h => by rw [hid, hq2]; exact rdBytes g (s1, 0) 32 W h (by omega))
  have hh3 : ¬ (2 : Int) < (how : Int) := by omega
  have hne : some m ≠ some g := fun e => hmg (by injection e)
  clear hid hq2 HV2 h0 h1 hh2
  by_cases he2 : e2 = 0
  case neg =>
    have qb : ((e2 : Int) != 0) = true := by rw [bne_iff_ne]; omega
    have HX : Sec (V = (([], 0, 2), (s2, e2))) := sec (by rw [HV3.out, if_pos he2])
    clear he2
    go_enter Tryd.func49, Tryd.ntmps49
    go_wp2_with (first | (go_at_call 35; (with_reducible refine Calls.mono (HBd.out _ _ d2) ?_); rintro e wz ⟨rfl, rfl⟩; dsimp only) | (go_at_call 33; (with_reducible refine Calls.mono H1.out ?_); rintro e w1 ⟨rfl, d1, g1⟩) | (go_at_call 36; (with_reducible refine Calls.mono (H2.out _ d1) ?_); rintro e w2 ⟨rfl, d2, g2⟩; have G2 := only_trans g1 g2) | (go_at_call 35; (with_reducible refine Calls.mono (HBd.out _ _ d1) ?_); rintro e wz ⟨rfl, rfl⟩; dsimp only))
    go_ret3
    rw [HX.out]; exact ⟨rfl, d2, G2⟩
  subst he2
  cases hFi : F id with
  | none =>
    have HX : Sec (V = (([], 0, 11), (s2, 0))) := sec (by rw [HV3.out, if_neg (by simp), hFi])
    have HK1 : Sec ((F id).getD [] = []) := sec (by rw [hFi]; rfl)
    have HK2 : Sec ((F id).isSome = false) := sec (by rw [hFi]; rfl)
    clear hFi HV3
    go_enter Tryd.func49, Tryd.ntmps49
    go_wp2_with (first | (go_at_call 35; (with_reducible refine Calls.mono (HBd.out _ _ d2) ?_); rintro e wz ⟨rfl, rfl⟩; dsimp only) | (go_at_call 33; (with_reducible refine Calls.mono H1.out ?_); rintro e w1 ⟨rfl, d1, g1⟩) | (go_at_call 36; (with_reducible refine Calls.mono (H2.out _ d1) ?_); rintro e w2 ⟨rfl, d2, g2⟩; have G2 := only_trans g1 g2) | (go_at_call 35; (with_reducible refine Calls.mono (HBd.out _ _ d1) ?_); rintro e wz ⟨rfl, rfl⟩; dsimp only) | (refine wpList_look2 M.ss rfl (.tmp 30) (.tmp 31) rfl rfl (HM.out.kept G2 hne) rfl hidl (r := []) (q := false) HK1.out HK2.out ?_))
    go_ret3
    rw [HX.out]; exact ⟨rfl, d2, G2⟩
  | some bse =>
    have HV4 : Sec (V = pkT (s2, 0) bse 0) := sec (by rw [HV3.out, if_neg (by simp), hFi])
    have hbl := HFS.out _ _ hFi
    have HK1 : Sec ((F id).getD [] = bse) := sec (by rw [hFi]; rfl)
    have HK2 : Sec ((F id).isSome = true) := sec (by rw [hFi]; rfl)
    have hde : (0 : Nat) ≤ 8 := by omega
    clear hFi HV3
    obtain ⟨T, hT⟩ : ∃ x, x = nxtT (s2, 0) := ⟨_, rfl⟩
    obtain ⟨⟨s4, e4⟩, hq4⟩ : ∃ x, x = aftT (s2, 0) := ⟨_, rfl⟩
    have hTl : T.length ≤ 35184372088832 := by have := nxtT_leO (s2, 0); rw [← hT] at this; simp only at this; omega
    have HV5 : Sec (V = if e4 ≠ 0 then (([], 0, 2), (s4, e4)) else if 8 ≤ 0 then (([], 0, 10), (s4, e4)) else (((applyR bse T).1, 0 + 1, (applyR bse T).2), (s4, e4))) := sec (by rw [HV4.out]; unfold pkT; rw [← hT, ← hq4])
    have H4 : Sec (∀ W, RdAt 94 W g (s2, 0) → Calls Tryd.prog 34 #[.pointer (some ⟨g, 0, none⟩)] W fun e w' => e = .returned (.string (bs T)) ∧ RdAt 94 w' g (s4, e4) ∧ W.grownBy w' (some g)) := sec (fun W h => by rw [hT, hq4]; exact rdText g (s2, 0) W h)
    obtain ⟨Z, hZ⟩ : ∃ Z, Z = applyR bse T := ⟨_, rfl⟩
    have HA : Sec (∀ W, Calls Tryd.prog 79 #[.string (bs bse), .string (bs T)] W fun e w' => e = .returned (.tuple #[.string (bs Z.1), .int .i64 (Z.2 : Int)]) ∧ Gr W w') := sec (fun W => by rw [hZ]; exact dApply bse T W (by omega) hTl)
    rw [← hZ] at HV5
    clear hT hq4 hZ HV4
    by_cases he4 : e4 = 0
    case neg =>
      have qb : ((e4 : Int) != 0) = true := by rw [bne_iff_ne]; omega
      have HX : Sec (V = (([], 0, 2), (s4, e4))) := sec (by rw [HV5.out, if_pos he4])
      clear he4 hde
      go_enter Tryd.func49, Tryd.ntmps49
      go_wp2_with (first | (go_at_call 35; (with_reducible refine Calls.mono (HBd.out _ _ d4) ?_); rintro e wz ⟨rfl, rfl⟩; dsimp only) | (go_at_call 34; (with_reducible refine Calls.mono (H4.out _ d2) ?_); rintro e w4 ⟨rfl, d4, g4⟩; have G4 := only_trans G2 g4) | (go_at_call 79; (with_reducible refine Calls.mono (HA.out _) ?_); rintro e w5 ⟨rfl, g5⟩; have d5 := d4.gr g5; have G5 := only_trans G4 (only_gr g5 (some g))) | (go_at_call 35; (with_reducible refine Calls.mono (HBd.out _ _ d2) ?_); rintro e wz ⟨rfl, rfl⟩; dsimp only) | (go_at_call 33; (with_reducible refine Calls.mono H1.out ?_); rintro e w1 ⟨rfl, d1, g1⟩) | (go_at_call 36; (with_reducible refine Calls.mono (H2.out _ d1) ?_); rintro e w2 ⟨rfl, d2, g2⟩; have G2 := only_trans g1 g2) | (go_at_call 35; (with_reducible refine Calls.mono (HBd.out _ _ d1) ?_); rintro e wz ⟨rfl, rfl⟩; dsimp only) | (refine wpList_look2 M.ss rfl (.tmp 30) (.tmp 31) rfl rfl (HM.out.kept G2 hne) rfl hidl (r := bse) (q := true) HK1.out HK2.out ?_))
      go_ret3
      rw [HX.out]; exact ⟨rfl, d4, G4⟩
    subst he4
    have HX : Sec (V = ((Z.1, 0 + 1, Z.2), (s4, 0))) := sec (by rw [HV5.out, if_neg (by simp), if_neg (by omega)])
    go_enter Tryd.func49, Tryd.ntmps49
    go_wp2_with (first | (go_at_call 35; (with_reducible refine Calls.mono (HBd.out _ _ d4) ?_); rintro e wz ⟨rfl, rfl⟩; dsimp only) | (go_at_call 34; (with_reducible refine Calls.mono (H4.out _ d2) ?_); rintro e w4 ⟨rfl, d4, g4⟩; have G4 := only_trans G2 g4) | (go_at_call 79; (with_reducible refine Calls.mono (HA.out _) ?_); rintro e w5 ⟨rfl, g5⟩; have d5 := d4.gr g5; have G5 := only_trans G4 (only_gr g5 (some g))) | (go_at_call 35; (with_reducible refine Calls.mono (HBd.out _ _ d2) ?_); rintro e wz ⟨rfl, rfl⟩; dsimp only) | (go_at_call 33; (with_reducible refine Calls.mono H1.out ?_); rintro e w1 ⟨rfl, d1, g1⟩) | (go_at_call 36; (with_reducible refine Calls.mono (H2.out _ d1) ?_); rintro e w2 ⟨rfl, d2, g2⟩; have G2 := only_trans g1 g2) | (go_at_call 35; (with_reducible refine Calls.mono (HBd.out _ _ d1) ?_); rintro e wz ⟨rfl, rfl⟩; dsimp only) | (refine wpList_look2 M.ss rfl (.tmp 30) (.tmp 31) rfl rfl (HM.out.kept G2 hne) rfl hidl (r := bse) (q := true) HK1.out HK2.out ?_))
    go_ret3
    rw [HX.out]; exact ⟨rfl, d5, G5⟩
end Go.Proofs.YtmgpllakpgjicaaDoor

namespace Go.Proofs.YtmgpllakpgjicaaDoor
open Go.RowKit
set_option linter.unusedVariables false
theorem goodB_start : goodB [] 0 = true := by decide
theorem goodB_rest (b : List UInt8) (h : b.length < 1152921504606846976) : goodB (restOf b) (b.length : Int) = true := by
  rw [goodB_iff, restOf_len]
  omega

set_option maxRecDepth 100000 in
set_option maxHeartbeats 1000000 in
theorem sum_any (b : List UInt8) (w : World) (hT : TabK w) (hb : b.length ≤ 576460752303423488) :
    Calls Tryd.prog 43 #[.string (bs b)] w fun e w' => e = .returned (.string (bs (sha b))) ∧ Gr w w' := by
  have HG := sec (goodB_rest b (by omega))
  have HS : Sec (sha b = endOf (overS startS b) (restOf b) b.length) := sec rfl
  have HZ := sec (show (0 : Int) + (b.length : Int) < 1152921504606846976 by omega)
  have HA : Sec (([] : List UInt8) ++ b = b) := sec rfl
  have HN : Sec ((0 : Int) + (b.length : Int) = (b.length : Int)) := sec (by omega)
  obtain ⟨S, hS⟩ : ∃ S, S = overS startS b := ⟨_, rfl⟩
  obtain ⟨R, hR⟩ : ∃ R, R = restOf b := ⟨_, rfl⟩
  rw [← hS, ← hR] at HS
  rw [← hR] at HG
  have HSS := sec hS
  have HRR := sec hR
  clear hS hR
  go_enter Tryd.func43, Tryd.ntmps43
  go_wp2_with (first
    | (refine wpList_store_blk rfl 103 (.tmp 3) (.tmp 11) rfl (g := w2.heap.size) rfl rfl (Blk.new w2 _ _) A.state rfl (stCells_one _ _ _) ?_; intro w3 h3 hg3; have gg3 : Gr w w3 := Gr.only (g2.alloc _) hg3 g2.size; clear hg3)
    | (refine wpList_load_blk rfl 103 (.tmp 3) rfl (g := w2.heap.size) rfl h3 A.state ?_)
    | (go_at_call 76; refine (begin_any _).mono ?_; rintro e w1 ⟨rfl, g1⟩)
    | (go_at_call 75; refine (add_ok startS [] 0 b _ (hT.gr g1) goodB_start hb HZ.out).mono ?_; rw [HA.out, HN.out, ← HSS.out, ← HRR.out]; rintro e w2 ⟨rfl, g2'⟩; have g2 := g1.trans g2'; clear g2' g1)
    | (go_at_call 77; refine (end_ok S R b.length _ (hT.gr gg3) HG.out).mono ?_; rw [← HS.out]; rintro e w4 ⟨rfl, g4⟩))
  go_ret
  exact ⟨rfl, gg3.trans g4⟩
end Go.Proofs.YtmgpllakpgjicaaDoor

namespace Go.Proofs.YtmgpllakpgjicaaDoor
set_option maxRecDepth 100000
open Go.RowKit
set_option linter.unusedVariables false
theorem objId_any (b : List UInt8) (w : World) (hT : TabK w) (hb : b.length ≤ 576460752303423488) :
    Calls Tryd.prog 11 #[.string (bs b)] w fun e w' => e = .returned (.string (bs (sha b))) ∧ Gr w w' := by
  have HS := sec (sum_any b w hT hb)
  clear hT
  go_enter Tryd.func11, Tryd.ntmps11
  go_wp2_with (go_at_call 43; (with_reducible refine Calls.mono HS.out ?_); rintro e w1 ⟨rfl, g1⟩)
  go_ret
  exact ⟨rfl, g1⟩
theorem own_nilP {w : World} {k e size n cap : Nat} {A : Option Addr} {xs : List Value} (h : w.ownsRow k e size (.slice A n cap) n xs) : A = none → n = 0 ∧ cap = 0 := by
  intro e
  rcases h.2 with ⟨h, h0⟩ | ⟨g, _, _, h, _⟩
  · injection h with _ h2 h3
    exact ⟨h0, h3⟩
  · subst e; injection h with h; cases h
theorem own_capP {w : World} {k e size n cap : Nat} {A : Option Addr} {xs : List Value} (h : w.ownsRow k e size (.slice A n cap) n xs) : n ≤ cap := by
  rcases h.2 with ⟨h, h0⟩ | ⟨g, cap', cur, h, _, _, hle, _⟩
  · omega
  · injection h with _ _ h3
    subst h3
    exact hle
theorem sV_addP (G : List (List UInt8)) (x : List UInt8) : G.map strV ++ [Value.string (bs x)] = (G ++ [x]).map strV := by simp [strV]
/-- a row of the call's own lies in no older block -/
theorem own_neP {w : World} {B e size n cap : Nat} {A : Option Addr} {xs : List Value} (h : w.ownsRow B e size (.slice A n cap) n xs) {m : Nat} (hm : m < B) : some m ≠ (Value.slice A n cap).ownBlock := by
  intro he
  have := (h.lt m he.symm).1
  omega
theorem own_atP {w : World} {B e size n cap : Nat} {A : Option Addr} {xs : List Value} (h : w.ownsRow B e size (.slice A n cap) n xs) {m : Nat} (hm : m < B) : ∀ b off, A = some ⟨b, off, none⟩ → b ≠ m := by
  intro b off hA hb
  have hbk : (Value.slice A n cap).ownBlock = some b := by rw [hA]; rfl
  have := (h.lt b hbk).1
  omega
end Go.Proofs.YtmgpllakpgjicaaDoor

namespace Go.Proofs.YtmgpllakpgjicaaDoor
set_option maxRecDepth 100000
open Go.RowKit
set_option linter.unusedVariables false
/-- what a list of texts and an error come back as -/
def ListPost (w : World) (r : List (List UInt8) × Int) (e : Ending) (w' : World) : Prop :=
  ∃ A' n' c', n' = r.1.length ∧ e = .returned (.tuple #[.slice A' n' c', .int .i64 r.2]) ∧ StrRow w' A' n' r.1 ∧ (A' = none → n' = 0 ∧ c' = 0) ∧ n' ≤ c' ∧ Gr w w'
theorem ListPost.no {w w' : World} (e : Int) (g : Gr w w') : ListPost w ([], e) (.returned (.tuple #[.slice none 0 0, .int .i64 e])) w' :=
  ⟨none, 0, 0, rfl, rfl, Row.nil _ _ _, fun _ => ⟨rfl, rfl⟩, Nat.le_refl _, g⟩
/-- a round of a pack's reading -/
structure PkAt (V : List (List UInt8) × Int) (F : List UInt8 → Option (List UInt8)) (many K : Nat) (w W : World) (g m mc : Nat) (A B : Option Addr) (i c d : Nat) (L : List (List UInt8 × Nat)) (q : St) (wr : World) : Prop where
  len : L.length = i
  own1 : wr.ownsRow W.heap.size 9 1 (.slice A i c) i ((L.map (·.1)).map strV)
  own2 : wr.ownsRow W.heap.size 3 1 (.slice B i d) i (L.map fun x => intV (x.2 : Int))
  rd : RdAt 94 wr g q
  map : MapAt 9 9 Lit.string wr m mc F
  sz : PkSz L
  ql : q.1.length ≤ K
  val : V = pkGo F (many - i) L q
  gr : Gr w wr
  size : W.heap.size ≤ wr.heap.size
  gW : g < W.heap.size
  mW : m < W.heap.size
theorem PkAt.rows {V : List (List UInt8) × Int} {F : List UInt8 → Option (List UInt8)} {many K : Nat} {w W : World} {g m mc : Nat} {A B : Option Addr} {i c d : Nat} {L : List (List UInt8 × Nat)} {q : St} {wr : World}
    (h : PkAt V F many K w W g m mc A B i c d L q wr) : PkRows wr g A B i L :=
  ⟨Row.own h.own1, Row.own h.own2, own_atP h.own1 h.gW, own_atP h.own2 h.gW⟩

theorem pkGo_err {F : List UInt8 → Option (List UInt8)} {n : Nat} {L : List (List UInt8 × Nat)} {q : St} {x : List UInt8} {d e : Nat} {q' : St} (h : pk1 F L q = ((x, d, e), q')) :
    pkGo F (n + 1) L q = if e ≠ 0 then ([], (e : Int)) else if (obD x).2 ≠ 0 then ([], (obD x).2) else if x ∈ L.map (·.1) then ([], 8) else pkGo F n (L ++ [(x, d)]) q' := by
  rw [pkGo, h]

set_option maxHeartbeats 16000000 in
theorem pkRead_any (b : List UInt8) (out : List (List UInt8)) (A : Option Addr) (c : Nat) (w : World) (hT : TabK w) (hb : b.length ≤ 1099511627775) (ho : StrRow w A out.length out) (hol : out.length ≤ 1099511627775) (hoz : ∀ x ∈ out, x.length ≤ 1048576) :
    Calls Tryd.prog 15 #[.string (bs b), .slice A out.length c] w (ListPost w (pkR b out)) := by
  have HId : Sec (∀ x W, x.length ≤ 1048576 → Gr w W → Calls Tryd.prog 11 #[.string (bs x)] W fun e w' => e = .returned (.string (bs (sha x))) ∧ Gr W w') := sec (fun x W h g => objId_any x W (hT.gr g) (by omega))
  have HSu : Sec (∀ x W, x.length ≤ 1099511627775 → Gr w W → Calls Tryd.prog 43 #[.string (bs x)] W fun e w' => e = .returned (.string (bs (sha x))) ∧ Gr W w') := sec (fun x W h g => sum_any x W (hT.gr g) (by omega))
  obtain ⟨V, hV⟩ : ∃ V, V = pkR b out := ⟨_, rfl⟩
  obtain ⟨e, he⟩ : ∃ e, e = b.length - 32 := ⟨_, rfl⟩
  have HV : Sec (V = if b.length < 33 ∨ b.take 1 ≠ [80] then ([], 2) else if sha (b.take e) ≠ b.drop e then ([], 5) else if (aftN (sub b 1 e, 0)).2 ≠ 0 then ([], 2) else if 400 < nxtN (sub b 1 e, 0) then ([], 6) else pkGo (outF out) (nxtN (sub b 1 e, 0)) [] (aftN (sub b 1 e, 0))) := sec (by rw [hV, he]; rfl)
  have HX0 := sec ho
  have HOZ := sec hoz
  rw [← hV]
  clear hV ho hoz hT
  by_cases h33 : b.length < 33
  · have q33 : (b.length : Int) < 33 := by omega
    have HX : Sec (V = ([], 2)) := sec (by rw [HV.out, if_pos (.inl h33)])
    clear h33 HV he
    go_enter Tryd.func15, Tryd.ntmps15
    go_wp2_with fail
    go_ret2
    rw [HX.out]
    exact ListPost.no _ (Gr.refl _)
  have q33 : ¬ (b.length : Int) < 33 := by omega
  have hb0 : 0 < b.length := by omega
  obtain ⟨c0, hc0⟩ : ∃ c0, c0 = b[0] := ⟨_, rfl⟩
  have htk : b.take 1 = [c0] := by rw [hc0]; cases b with
    | nil => simp at hb0
    | cons x r => rfl
  have hcell : b[0] = c0 := hc0.symm
  by_cases h80 : c0.toNat = 80
  case neg =>
    have q80 : ((c0.toNat : Int) != 80) = true := by rw [bne_iff_ne]; omega
    have HX : Sec (V = ([], 2)) := sec (by rw [HV.out, if_pos (.inr (by rw [htk]; intro h; injection h with h _; subst h; exact h80 rfl))])
    clear h33 HV he htk hc0 h80
    go_enter Tryd.func15, Tryd.ntmps15
    go_wp2_with fail
    go_ret2
    rw [HX.out]
    exact ListPost.no _ (Gr.refl _)
  have q80 : ((c0.toNat : Int) != 80) = false := by rw [bne_eq_false_iff_eq]; omega
  have HV1 : Sec (V = if sha (b.take e) ≠ b.drop e then ([], 5) else if (aftN (sub b 1 e, 0)).2 ≠ 0 then ([], 2) else if 400 < nxtN (sub b 1 e, 0) then ([], 6) else pkGo (outF out) (nxtN (sub b 1 e, 0)) [] (aftN (sub b 1 e, 0))) := sec (by
    rw [HV.out, if_neg]
    rw [htk]
    intro h
    rcases h with h | h
    · exact h33 h
    · exact h (by rw [show c0 = 80 from UInt8.toNat_inj.1 h80]))
  have heb : e ≤ b.length := by omega
  have he1 : (1 : Int) ≤ (e : Int) := by omega
  have heb' : (e : Int) ≤ (b.length : Int) := by omega
  have hwr : IntKind.i64.wrap ((b.length : Int) - 32) = (e : Int) := by rw [show (b.length : Int) - 32 = (e : Int) by omega]; exact IntWalk.i64_in _ (by omega)
  have hel : (b.take e).length ≤ 1099511627775 := by rw [List.length_take]; omega
  have hsl : (sub b 1 e).length ≤ 1099511627775 := by rw [sub_len _ _ _ heb]; omega
  have HSb := sec (fun W g => HSu.out (b.take e) W hel g)
  clear h33 HV he htk hc0 h80 HSu hel
  cases hq : sha (b.take e) == b.drop e with
  | false =>
    have hq' : ¬ sha (b.take e) = b.drop e := by simpa using hq
    have HX : Sec (V = ([], 5)) := sec (by rw [HV1.out, if_pos hq'])
    obtain ⟨S, hS⟩ : ∃ S, S = sha (b.take e) := ⟨_, rfl⟩
    rw [← hS] at HSb hq
    clear hq' hS HV1
    go_enter Tryd.func15, Tryd.ntmps15
    go_upto_region 4 with fail
    have g1d : Gr w w.drew := (Gr.refl _).drew
    go_region_held3 (fun w' => Gr w w') (first | with_reducible assumption | exact (Gr.refl _).drew | exact Gr.refl _ | fail)
      (first
        | (go_at_call 43; (with_reducible refine Calls.mono (HSb.out w.drew g1d) ?_); rintro e w2 ⟨rfl, g2⟩; have gg2 : Gr w w2 := Gr.trans g1d g2)
        | fail)
    all_goals (go_wp2_with fail; go_ret2; rw [HX.out]; exact ListPost.no _ gg2)
  | true =>
  have hq' : sha (b.take e) = b.drop e := by simpa using hq
  obtain ⟨s0, hs0⟩ : ∃ s, s = sub b 1 e := ⟨_, rfl⟩
  obtain ⟨many, hmany⟩ : ∃ n, n = nxtN (s0, 0) := ⟨_, rfl⟩
  obtain ⟨⟨s1, e1⟩, hq1⟩ : ∃ q, q = aftN (s0, 0) := ⟨_, rfl⟩
  have hsl1 : s1.length ≤ 1099511627775 := by have := aftN_leO (s0, 0); rw [← hq1, hs0] at this; simp only at this; omega
  have hml : many < 4611686018427387904 := by rw [hmany]; exact nxtN_ltO _
  have HV2 : Sec (V = if e1 ≠ 0 then ([], 2) else if 400 < many then ([], 6) else pkGo (outF out) many [] (s1, e1)) := sec (by rw [HV1.out, if_neg (by simp [hq']), ← hs0, ← hmany, ← hq1])
  have HRd : Sec (∀ W, Calls Tryd.prog 32 #[.string (bs s0)] W fun e w' => e = .returned (.pointer (some ⟨W.heap.size, 0, none⟩)) ∧ RdAt 94 w' W.heap.size (s0, 0) ∧ Gr W w') := sec (fun W => rdRead s0 W (by rw [hs0]; omega))
  have HNu : Sec (∀ g W, RdAt 94 W g (s0, 0) → Calls Tryd.prog 33 #[.pointer (some ⟨g, 0, none⟩)] W fun e w' => e = .returned (.int .i64 (many : Int)) ∧ RdAt 94 w' g (s1, e1) ∧ W.grownBy w' (some g)) := sec (fun g W h => by rw [hmany, hq1]; exact rdNumber g (s0, 0) W h)
  have HBd := sec (fun g q W (h : RdAt 94 W g q) => rdBad g q W h)
  rw [hq'] at HSb
  have HSE := sec hs0
  clear hq hq' HV1 hmany hq1 hs0
  obtain ⟨n, hn⟩ : ∃ n, n = out.length := ⟨_, rfl⟩
  have HN := sec hn
  rw [← hn] at HX0 hol ⊢
  clear hn
  go_enter Tryd.func15, Tryd.ntmps15
  go_upto_region 4 with fail
  have g1d : Gr w w.drew := (Gr.refl _).drew
  go_region_held3 (fun w' => Gr w w') (first | with_reducible assumption | exact (Gr.refl _).drew | exact Gr.refl _ | fail)
    (first
      | (go_at_call 43; (with_reducible refine Calls.mono (HSb.out w.drew g1d) ?_); rintro e w2 ⟨rfl, g2⟩; have gg2 : Gr w w2 := Gr.trans g1d g2)
      | fail)
  obtain ⟨m, hm⟩ : ∃ m, m = w2.heap.size := ⟨_, rfl⟩
  have HMS : Sec (MapAt 9 9 Lit.string (w2.alloc (.map #[] 0)) m 0 (outF (out.take 0))) := sec (by rw [hm]; exact MapAt.made w2 _ _ _)
  have hwm : w.heap.size ≤ m := by rw [hm]; exact gg2.size
  have HG2 := sec (gg2.alloc (.map #[] 0))
  obtain ⟨wm, hwm2⟩ : ∃ y, y = w2.alloc (.map #[] 0) := ⟨_, rfl⟩
  have hmk : (Instr.makeMap 70 none).run Tryd.prog w2 = .ok (.map (some m)) wm := by rw [hwm2, hm]; rfl
  rw [← hwm2] at HMS HG2
  clear hm hwm2 gg2 g1d
  go_wp2_with fail
  go_loopg [41, 9] n (fun fuel iv _ wr => ∃ (i mc : Nat), iv = .int .i64 (i : Int) ∧ n ≤ i + fuel ∧ i ≤ n ∧ mc ≤ i ∧ Sec (MapAt 9 9 Lit.string wr m mc (outF (out.take i))) ∧ Sec (Gr w wr))
  case atStart => exact ⟨0, 0, rfl, by omega, by omega, by omega, HMS, HG2⟩
  case round =>
    clear HMS HG2
    obtain ⟨i, mc, rfl, hik, hi, hmc, HM, HG⟩ := hrel
    by_cases hlt : i < n
    · have hii : (i : Int) < (n : Int) := by omega
      have hlt' : i < out.length := by rw [← HN.out]; exact hlt
      obtain ⟨bb, off, rfl, x0⟩ := (HX0.out.gr HG.out).cell hlt'
      have hxz := HOZ.out _ (List.getElem_mem hlt')
      have HTK := sec (outF_take out i hlt')
      obtain ⟨x, hx⟩ : ∃ x, x = out[i] := ⟨_, rfl⟩
      rw [← hx] at x0 hxz HTK
      obtain ⟨X, hX⟩ : ∃ X, X = sha x := ⟨_, rfl⟩
      have hXl : X.length ≤ maxLen := by rw [hX, sha_len]; unfold maxLen; omega
      have hxl : x.length ≤ maxLen := by unfold maxLen; omega
      have hmcl : mc < maxLen := by unfold maxLen; omega
      have HIx := sec (HId.out x)
      rw [← hX] at HTK HIx
      have HLT := sec hlt
      have HXZ := sec hxz
      clear hlt hlt' hx hX hxz
      go_wp2_with (first
        | (go_at_call 11; (with_reducible refine Calls.mono (HIx.out _ HXZ.out HG.out) ?_); rintro e w3 ⟨rfl, g3⟩; have HM3 := HM.out.gr g3)
        | (refine wpList_mput M.ss rfl (.tmp 45) (.tmp 47) (.tmp 48) rfl rfl HM3 hmcl rfl hXl rfl hxl ?_; intro w4 HM4 hg4))
      go_roundg (gk - 1)
      case rel =>
        refine ⟨i + 1, _, by go_num, by omega, HLT.out, ?_, sec (by rw [HTK.out]; exact HM4), sec (Gr.only (HG.out.trans g3) hg4 hwm)⟩
        unfold mcnt
        split <;> omega
      case measure => have := HLT.out; omega
    · obtain rfl : i = n := by omega
      have HM1 : Sec (MapAt 9 9 Lit.string wr m mc (outF out)) := sec (by have := HM.out; rwa [List.take_of_length_le (by rw [← HN.out]; exact Nat.le_refl _)] at this)
      obtain ⟨F, hF⟩ : ∃ F, F = outF out := ⟨_, rfl⟩
      have HFz : Sec (∀ id x, F id = some x → x.length ≤ 1048576) := sec (fun id x h => HOZ.out _ (outF_mem out (by rw [← hF]; exact h)))
      rw [← hF] at HM1 HV2
      obtain ⟨g, hg⟩ : ∃ g, g = wr.heap.size := ⟨_, rfl⟩
      have hmg : m ≠ g := by have := HM1.out.lt; omega
      have hwg : w.heap.size ≤ g := by rw [hg]; exact HG.out.size
      have HGG := sec hg
      have hms : some m ≠ some g := fun e => hmg (by injection e)
      clear hlt hF hg HM HX0 hik hi HN HOZ HId hol
      by_cases he1 : e1 = 0
      case neg =>
        have qb : ((e1 : Int) != 0) = true := by rw [bne_iff_ne]; omega
        have HX : Sec (V = ([], 2)) := sec (by rw [HV2.out, if_pos he1])
        clear he1
        go_wp2_with (first
          | (go_at_call 32; rw [← HSE.out]; (with_reducible refine Calls.mono (HRd.out _) ?_); rintro e w5 ⟨rfl, d5, g5⟩; rw [← HGG.out] at d5 ⊢)
          | (go_at_call 33; (with_reducible refine Calls.mono (HNu.out _ _ d5) ?_); rintro e w6 ⟨rfl, d6, g6⟩; have G6 := Gr.only (HG.out.trans g5) g6 hwg)
          | (go_at_call 35; (with_reducible refine Calls.mono (HBd.out _ _ _ d6) ?_); rintro e w7 ⟨rfl, rfl⟩; dsimp only))
        go_ret2
        rw [HX.out]
        exact ListPost.no _ G6
      subst he1
      by_cases h400 : 400 < many
      · have q4 : (400 : Int) < (many : Int) := by omega
        have HX : Sec (V = ([], 6)) := sec (by rw [HV2.out, if_neg (by simp), if_pos h400])
        clear h400
        go_wp2_with (first
          | (go_at_call 32; rw [← HSE.out]; (with_reducible refine Calls.mono (HRd.out _) ?_); rintro e w5 ⟨rfl, d5, g5⟩; rw [← HGG.out] at d5 ⊢)
          | (go_at_call 33; (with_reducible refine Calls.mono (HNu.out _ _ d5) ?_); rintro e w6 ⟨rfl, d6, g6⟩; have G6 := Gr.only (HG.out.trans g5) g6 hwg)
          | (go_at_call 35; (with_reducible refine Calls.mono (HBd.out _ _ _ d6) ?_); rintro e w7 ⟨rfl, rfl⟩; dsimp only))
        go_ret2
        rw [HX.out]
        exact ListPost.no _ G6
      have q4 : ¬ (400 : Int) < (many : Int) := by omega
      have HV3 : Sec (V = pkGo F many [] (s1, 0)) := sec (by rw [HV2.out, if_neg (by simp), if_neg h400])
      have hm4 : many ≤ 400 := by omega
      clear h400 HV2
      go_wp2_with (first
        | (go_at_call 32; rw [← HSE.out]; (with_reducible refine Calls.mono (HRd.out _) ?_); rintro e w5 ⟨rfl, d5, g5⟩; rw [← HGG.out] at d5 ⊢)
        | (go_at_call 33; (with_reducible refine Calls.mono (HNu.out _ _ d5) ?_); rintro e w6 ⟨rfl, d6, g6⟩; have G6 := Gr.only (HG.out.trans g5) g6 hwg)
        | (go_at_call 35; (with_reducible refine Calls.mono (HBd.out _ _ _ d6) ?_); rintro e w7 ⟨rfl, rfl⟩; dsimp only))
      have HS0 : Sec (PkAt V F many 1099511627775 w w6 g m mc none none 0 0 0 [] (s1, 0) w6) := sec ⟨rfl, World.ownsRow_nil _ _ _ _, World.ownsRow_nil _ _ _ _, d6, (HM1.out.gr g5).kept g6 hms, ⟨by simp, by simp⟩, hsl1, HV3.out, G6, Nat.le_refl _, d6.blk.lt, ((HM1.out.gr g5).kept g6 hms).lt⟩
      have hww : w.heap.size ≤ w6.heap.size := G6.size
      clear d5 g5 d6 g6 G6 HM1 HGG HRd HNu HV3 HG
      go_loopg [62, 12, 13, 14, 15, 16, 17, 18] many (fun fuel iv lv dv _ _ _ _ _ wr => ∃ (i : Nat) (A0 B0 : Option Addr) (c0 d0 : Nat), iv = .int .i64 (i : Int) ∧ lv = .slice A0 i c0 ∧ dv = .slice B0 i d0 ∧ many ≤ i + fuel ∧ i ≤ many ∧ Sec (∃ L q mc, PkAt V F many 1099511627775 w w6 g m mc A0 B0 i c0 d0 L q wr))
      case atStart => exact ⟨0, none, none, 0, 0, rfl, rfl, rfl, by omega, by omega, sec ⟨_, _, _, HS0.out⟩⟩
      case round =>
        clear HS0
        obtain ⟨i, A0, B0, c0, d0, rfl, rfl, rfl, hik, hi, HP⟩ := hrel
        obtain ⟨L, q, mc, P⟩ := HP.out
        by_cases hlt : i < many
        · have hii : (i : Int) < (many : Int) := by omega
          obtain ⟨⟨⟨x, d, er⟩, q2⟩, hpk⟩ : ∃ r, r = pk1 F L q := ⟨_, rfl⟩
          have hok := pk1_ok (F := F) (L := L) (q := q) (k := 1099511627775) P.ql (by omega)
          rw [← hpk] at hok
          have hval := P.val
          rw [show many - i = (many - (i + 1)) + 1 by omega, pkGo_err hpk.symm] at hval
          have HVi := sec hval
          have HOne : Sec (Calls Tryd.prog 49 #[.pointer (some ⟨g, 0, none⟩), .slice A0 i c0, .slice B0 i d0, .map (some m)] wr fun e w' => e = .returned (.tuple #[.string (bs x), .int .i64 (d : Int), .int .i64 (er : Int)]) ∧ RdAt 94 w' g q2 ∧ wr.grownBy w' (some g)) := sec (by
            have := pkOne_any g q L A0 B0 i c0 d0 m mc F wr P.rd P.rows P.map hmg P.sz HFz.out (by have := P.ql; omega) (by omega)
            rw [← hpk] at this
            exact this)
          have HDec : Sec (∀ W, Calls Tryd.prog 8 #[.string (bs x)] W (DecPost W (obD x))) := sec (fun W => obDec_any x W (by have := hok.len; simp only at this; omega))
          have hdp : d ≤ 8 := hok.deep
          have hq2l : q2.1.length ≤ 1099511627775 := hok.left
          have HOL := sec (fun (h : (obD x).2 = 0) => P.sz.add (s := x) (d := d) h hdp)
          have HPP := sec P
          have HLT := sec hlt
          have hg1W : ∀ w1, wr.grownBy w1 (some g) → Gr w w1 := fun w1 h => Gr.only P.gr h hwg
          have HG1W := sec hg1W
          obtain ⟨⟨⟨kd, dt, en, tr, pa, wh, no, ti, ta⟩, E⟩, hE⟩ : ∃ r, r = obD x := ⟨_, rfl⟩
          rw [← hE] at HVi HDec HOL
          unfold DecPost obA at HDec
          simp only at HVi HDec HOL
          clear hpk hok hval hg1W hE hlt P HP
          by_cases her : er = 0
          case neg =>
            have qe : ((er : Int) != 0) = true := by rw [bne_iff_ne]; omega
            have HX : Sec (V = ([], (er : Int))) := sec (by rw [HVi.out, if_pos her])
            clear her
            go_wp2_with (first
              | (go_at_call 49; (with_reducible refine Calls.mono HOne.out ?_); rintro e w1 ⟨rfl, d1, g1⟩))
            go_ret2
            rw [HX.out]
            exact ListPost.no _ (HG1W.out _ g1)
          subst her
          by_cases hE0 : E = 0
          case neg =>
            have qe : (E != 0) = true := by rw [bne_iff_ne]; exact hE0
            have HX : Sec (V = ([], E)) := sec (by rw [HVi.out, if_neg (by simp), if_pos hE0])
            clear hE0
            go_upto_region 26 with (first
              | (go_at_call 49; (with_reducible refine Calls.mono HOne.out ?_); rintro e w1 ⟨rfl, d1, g1⟩)
              | (go_at_call 8; (with_reducible refine Calls.mono (HDec.out _) ?_); rintro e w2 ⟨A1, c1, B1, d1', rfl, r2, g2⟩)
              | (refine wpList_store_blk rfl 25 (.tmp 17) (.tmp 79) rfl (g := w2.heap.size) (cs' := obA ⟨kd, dt, en, tr, pa, wh, no, ti, ta⟩ A1 c1 B1 d1') rfl rfl (Blk.new w2 _ _) aggOb rfl (obA_one _ _ _ _ _) ?_; intro w3 h3 hg3))
            have z23 : Gr w2 w3 := Gr.only ((Gr.refl w2).alloc _) hg3 (Nat.le_refl _)
            go_wp2_with fail
            go_ret2
            rw [HX.out]
            exact ListPost.no _ (((HG1W.out _ g1).trans g2).trans z23)
          subst hE0
          have HVj : Sec (V = if x ∈ L.map (·.1) then ([], 8) else pkGo F (many - (i + 1)) (L ++ [(x, d)]) q2) := sec (by rw [HVi.out, if_neg (by simp), if_neg (by simp)])
          have HCo : Sec (∀ W, StrRow W A0 i (L.map (·.1)) → Calls Tryd.prog 50 #[.slice A0 i c0, .string (bs x)] W fun e w' => e = .returned (.bool (decide (x ∈ L.map (·.1)))) ∧ Gr W w') := sec (fun W h => sliceContains_any _ _ _ _ _ W h (by omega))
          clear HVi
          by_cases hin : x ∈ L.map (·.1)
          · have HX : Sec (V = ([], 8)) := sec (by rw [HVj.out, if_pos hin])
            rw [decide_eq_true hin] at HCo
            clear hin HVj
            go_upto_region 26 with (first
              | (go_at_call 49; (with_reducible refine Calls.mono HOne.out ?_); rintro e w1 ⟨rfl, d1, g1⟩)
              | (go_at_call 8; (with_reducible refine Calls.mono (HDec.out _) ?_); rintro e w2 ⟨A1, c1, B1, d1', rfl, r2, g2⟩)
              | (refine wpList_store_blk rfl 25 (.tmp 17) (.tmp 79) rfl (g := w2.heap.size) (cs' := obA ⟨kd, dt, en, tr, pa, wh, no, ti, ta⟩ A1 c1 B1 d1') rfl rfl (Blk.new w2 _ _) aggOb rfl (obA_one _ _ _ _ _) ?_; intro w3 h3 hg3))
            have z23 : Gr w2 w3 := Gr.only ((Gr.refl w2).alloc _) hg3 (Nat.le_refl _)
            have R3 := (HPP.out.rows.only g1).txt.gr (g2.trans z23)
            go_wp2_with (first
              | (go_at_call 50; (with_reducible refine Calls.mono (HCo.out _ R3) ?_); rintro e w4 ⟨rfl, g4⟩))
            go_ret2
            rw [HX.out]
            exact ListPost.no _ ((((HG1W.out _ g1).trans g2).trans z23).trans g4)
          · have HX : Sec (V = pkGo F (many - (i + 1)) (L ++ [(x, d)]) q2) := sec (by rw [HVj.out, if_neg hin])
            rw [decide_eq_false hin] at HCo
            clear hin HVj
            have hb1 : (i + 1) * 16 ≤ 140737488355328 := by omega
            have hb2 : (i + 1) * 8 ≤ 140737488355328 := by omega
            have hb3 : i + 1 ≤ maxLen := by unfold maxLen; omega
            go_upto_region 26 with (first
              | (go_at_call 49; (with_reducible refine Calls.mono HOne.out ?_); rintro e w1 ⟨rfl, d1, g1⟩)
              | (go_at_call 8; (with_reducible refine Calls.mono (HDec.out _) ?_); rintro e w2 ⟨A1, c1, B1, d1', rfl, r2, g2⟩)
              | (refine wpList_store_blk rfl 25 (.tmp 17) (.tmp 79) rfl (g := w2.heap.size) (cs' := obA ⟨kd, dt, en, tr, pa, wh, no, ti, ta⟩ A1 c1 B1 d1') rfl rfl (Blk.new w2 _ _) aggOb rfl (obA_one _ _ _ _ _) ?_; intro w3 h3 hg3))
            have z23 : Gr w2 w3 := Gr.only ((Gr.refl w2).alloc _) hg3 (Nat.le_refl _)
            have R3 := (HPP.out.rows.only g1).txt.gr (g2.trans z23)
            have z13 := g2.trans z23
            clear h3 hg3 r2 g2 z23
            go_upto_region 30 with (first
              | (go_at_call 50; (with_reducible refine Calls.mono (HCo.out _ R3) ?_); rintro e w4 ⟨rfl, g4⟩))
            have z14 := z13.trans g4
            have o1 := own_gr (own_only HPP.out.own1 HPP.out.rd.blk (by decide) g1) z14
            have o2 := own_gr (own_only HPP.out.own2 HPP.out.rd.blk (by decide) g1) z14
            have d4 := d1.gr z14
            have M4 := (HPP.out.map.kept g1 hms).gr z14
            have G4 := (HG1W.out _ g1).trans z14
            have S4 : w6.heap.size ≤ w4.heap.size := Nat.le_trans HPP.out.size (Nat.le_trans g1.size z14.size)
            clear R3 z13 g4 z14 d1 g1
            go_wp2_with (first
              | (at_builtin; refine wpList_append_oneB E.str rfl (.tmp 87) (.tmp 89) rfl rfl o1 rfl rfl hb1 hb3 S4 ?_; intro g5 c5 w5 o5 hg5; have p5 := own_other o2 o1 (by decide) hg5; have S5 : w6.heap.size ≤ w5.heap.size := Nat.le_trans S4 hg5.size)
              | (at_builtin; refine wpList_append_oneB E.int rfl (.tmp 91) (.tmp 93) rfl rfl p5 rfl rfl hb2 hb3 S5 ?_; intro g7 c7 w7 o7 hg7))
            go_roundg (gk - 1)
            case rel =>
              refine ⟨i + 1, some ⟨g5, 0, none⟩, some ⟨g7, 0, none⟩, c5, c7, by go_num, rfl, rfl, by omega, HLT.out, sec ⟨L ++ [(x, d)], q2, mc, ?_⟩⟩
              have k5 := own_neP o1 HPP.out.mW
              have k7 := own_neP p5 HPP.out.mW
              have n5 := own_neP o1 HPP.out.gW
              have n7 := own_neP p5 HPP.out.gW
              refine ⟨by simp [HPP.out.len], ?_, ?_, (d4.other hg5 n5).other hg7 n7, (M4.kept hg5 k5).kept hg7 k7, HOL.out trivial, hq2l, HX.out, (G4.grown hg5 (fun k hk => Nat.le_trans hww (o1.lt k hk).1)).grown hg7 (fun k hk => Nat.le_trans hww (p5.lt k hk).1), Nat.le_trans S5 hg7.size, HPP.out.gW, HPP.out.mW⟩
              · have := own_other o5 p5 (by decide) hg7
                simpa [strV] using this
              · simpa [intV] using o7
            case measure => have := HLT.out; omega
        · obtain rfl : i = many := by omega
          have HVi : Sec (V = if q.1.length = 0 then (L.map (·.1), 0) else ([], 2)) := sec (by rw [P.val, Nat.sub_self]; rfl)
          have HLf : Sec (Calls Tryd.prog 37 #[.pointer (some ⟨g, 0, none⟩)] wr fun e w' => e = .returned (.int .i64 (q.1.length : Int)) ∧ wr = w') := sec (rdLeft g q wr P.rd)
          have HPP := sec P
          clear hlt P HP
          by_cases hl0 : q.1.length = 0
          · have HX : Sec (V = (L.map (·.1), 0)) := sec (by rw [HVi.out, if_pos hl0])
            have ql : ¬ (0 : Int) < (q.1.length : Int) := by omega
            clear hl0
            go_wp2_with (first
              | (go_at_call 37; (with_reducible refine Calls.mono HLf.out ?_); rintro e w7 ⟨rfl, rfl⟩; dsimp only))
            go_ret2
            rw [HX.out]
            exact ⟨A0, i, c0, by rw [List.length_map, HPP.out.len], rfl, HPP.out.rows.txt, own_nilP HPP.out.own1, own_capP HPP.out.own1, HPP.out.gr⟩
          · have HX : Sec (V = ([], 2)) := sec (by rw [HVi.out, if_neg hl0])
            have ql : (0 : Int) < (q.1.length : Int) := by omega
            clear hl0
            go_wp2_with (first
              | (go_at_call 37; (with_reducible refine Calls.mono HLf.out ?_); rintro e w7 ⟨rfl, rfl⟩; dsimp only))
            go_ret2
            rw [HX.out]
            exact ListPost.no _ HPP.out.gr
end Go.Proofs.YtmgpllakpgjicaaDoor

namespace Go.Proofs.YtmgpllakpgjicaaDoor
set_option maxRecDepth 100000
open Go.RowKit
set_option linter.unusedVariables false
theorem aggCh : AggOk 83 3 := ⟨⟨_, Tryd.underlying83, rfl⟩, by kernel_rfl⟩
theorem BlkAtP {w : World} {t : TypeId} {cs : Array Value} {k : Nat} (hk : k = w.heap.size) : Blk (w.alloc (.cells cs t)) k t cs := by subst hk; exact Blk.new w t cs
def pkX : List UInt8 := [1, 1, 97]
def pkS : List UInt8 := [80, 1, 0, 3, 1, 1, 97]
theorem pkX_dec : (obD pkX).2 = 0 := by decide
theorem pkR_try : pkR (pkS ++ sha pkS) [] = ([pkX], 0) := by
  have hl : (pkS ++ sha pkS).length = 39 := by rw [List.length_append, sha_len]; rfl
  have h1 : (pkS ++ sha pkS).take 1 = [80] := rfl
  have h2 : (pkS ++ sha pkS).take 7 = pkS := rfl
  have h3 : (pkS ++ sha pkS).drop 7 = sha pkS := rfl
  have h4 : sub (pkS ++ sha pkS) 1 7 = [1, 0, 3, 1, 1, 97] := rfl
  unfold pkR
  rw [hl]
  rw [if_neg (by rw [h1]; decide), show 39 - 32 = 7 from rfl, h2, h3, if_neg (by simp), h4]
  decide

set_option maxHeartbeats 4000000 in
theorem best_one (x : List UInt8) (A B : Option Addr) (c n d : Nat) (w : World) :
    Calls Tryd.prog 54 #[.string (bs x), .slice A 0 c, .slice B n d, .slice none 0 0] w fun e w' => e = .returned (.agg #[.int .i64 0, .int .i64 0, .string (bs x)]) ∧ Gr w w' := by
  have b0 : Blk ((w.alloc (.cells #[.int .i64 0, .int .i64 0, .string (bs [])] 83)).alloc (.cells #[.int .i64 0, .int .i64 0, .string (bs x)] 83)) w.heap.size 83 #[.int .i64 0, .int .i64 0, .string (bs [])] := (Blk.new w _ _).alloc _
  have h2 : Blk ((w.alloc (.cells #[.int .i64 0, .int .i64 0, .string (bs [])] 83)).alloc (.cells #[.int .i64 0, .int .i64 0, .string (bs x)] 83)) (w.heap.size + 1) 83 #[.int .i64 0, .int .i64 0, .string (bs x)] := Blk.new1 w _ _ _
  have G2 : Gr w ((w.alloc (.cells #[.int .i64 0, .int .i64 0, .string (bs [])] 83)).alloc (.cells #[.int .i64 0, .int .i64 0, .string (bs x)] 83)) := ((Gr.refl w).alloc _).alloc _
  obtain ⟨w2, hw2⟩ : ∃ y, y = (w.alloc (.cells #[.int .i64 0, .int .i64 0, .string (bs [])] 83)).alloc (.cells #[.int .i64 0, .int .i64 0, .string (bs x)] 83) := ⟨_, rfl⟩
  go_enter Tryd.func54, Tryd.ntmps54
  go_wp2_with fail
  rw [← hw2] at b0 h2 G2 ⊢
  clear hw2
  obtain ⟨p, hp⟩ : ∃ p, p = w.heap.size := ⟨_, rfl⟩
  have hwp : w.heap.size ≤ p := by omega
  rw [← hp] at h2 b0 ⊢
  clear hp
  have HH : Sec (Blk w2 p 83 #[.int .i64 0, .int .i64 0, .string (bs [])] ∧ Blk w2 (p + 1) 83 #[.int .i64 0, .int .i64 0, .string (bs x)] ∧ Gr w w2) := sec ⟨b0, h2, G2⟩
  clear b0 h2 G2
  go_loopg [10, 11, 12] 0 (fun _ iv _ _ wr => iv = .int .i64 0 ∧ Sec (Blk wr p 83 #[.int .i64 0, .int .i64 0, .string (bs [])] ∧ Blk wr (p + 1) 83 #[.int .i64 0, .int .i64 0, .string (bs x)] ∧ Gr w wr))
  case atStart => exact ⟨rfl, HH⟩
  case round =>
    clear HH
    obtain ⟨rfl, HH⟩ := hrel
    go_wp2_with fail
    go_loopg [13, 14, 15] 0 (fun _ iv _ _ wq => iv = .int .i64 0 ∧ Sec (Blk wq p 83 #[.int .i64 0, .int .i64 0, .string (bs [])] ∧ Blk wq (p + 1) 83 #[.int .i64 0, .int .i64 0, .string (bs x)] ∧ Gr w wq))
    case atStart => exact ⟨rfl, HH⟩
    case round =>
      clear HH
      obtain ⟨rfl, HH⟩ := hrel
      obtain ⟨b0, h2, G2⟩ := HH.out
      have z0 := b0.cell 0
      have z1 := b0.cell 1
      have z2 := b0.cell 2
      have y0 := b0.frozen 0
      have y1 := b0.frozen 1
      have y2 := b0.frozen 2
      go_wp2_with (first
        | (refine wpList_load_blk rfl 83 (.tmp 9) rfl (g := p + 1) rfl h2 aggCh ?_))
      refine bodyPost_ret (results_blk rfl _ rfl (((b0.set_ 0 (.int .i64 0)).set_ 1 (.int .i64 0)).set_ 2 (.string (bs x))) aggCh) rfl ?_
      exact ⟨rfl, ((G2.setCell (p := ⟨p, 0, none⟩) hwp _).setCell (p := ⟨p, 1, none⟩) hwp _).setCell (p := ⟨p, 2, none⟩) hwp _⟩

set_option maxHeartbeats 4000000 in
theorem pkWrite_one (b c : Nat) (w : World) (hx : w.cell? ⟨b, 0, none⟩ = some (.string (bs pkX))) (hT : TabK w) :
    Calls Tryd.prog 19 #[.slice (some ⟨b, 0, none⟩) 1 c, .slice none 0 0] w fun e w' => e = .returned (.tuple #[.string (bs (pkS ++ sha pkS)), .int .i64 0]) ∧ Gr w w' := by
  have HDec : Sec (∀ W, Calls Tryd.prog 8 #[.string (bs pkX)] W (DecPost W (obD pkX))) := sec (fun W => obDec_any pkX W (by decide))
  have hd := pkX_dec
  obtain ⟨⟨⟨kd, dt, en, tr, pa, wh, no, ti, ta⟩, E⟩, hE⟩ : ∃ r, r = obD pkX := ⟨_, rfl⟩
  rw [← hE] at HDec hd
  unfold DecPost obA at HDec
  simp only at HDec hd
  subst hd
  have hxl : pkX.length = 3 := rfl
  have HX : Sec (∀ W, Gr w W → W.cell? ⟨b, 0, none⟩ = some (.string (bs pkX))) := sec (fun W g => (g.below.cell (p := ⟨b, 0, none⟩) (World.block_lt_of_cell? w _ hx)).trans hx)
  have HT := sec hT
  obtain ⟨x, hx0⟩ : ∃ x, x = pkX := ⟨_, rfl⟩
  rw [← hx0] at HDec HX hx hxl
  have HX0 := sec hx0
  obtain ⟨S, hS⟩ : ∃ S, S = pkS := ⟨_, rfl⟩
  obtain ⟨D, hD⟩ : ∃ D, D = sha pkS := ⟨_, rfl⟩
  rw [← hD, ← hS]
  have HS := sec hS
  have HD := sec hD
  clear hE hT hx0 hS hD
  go_enter Tryd.func19, Tryd.ntmps19
  go_wp2_with fail
  go_loopg [27, 6, 7, 8, 9] 1 (fun fuel iv _ _ _ _ wr => ∃ i : Nat, iv = .int .i64 (i : Int) ∧ 1 ≤ i + fuel ∧ i ≤ 1 ∧ Gr w wr)
  case atStart => exact ⟨0, rfl, by omega, by omega, Gr.refl _⟩
  case round =>
    obtain ⟨i, rfl, hik, hi, hG⟩ := hrel
    by_cases hlt : i = 0
    · subst hlt
      have x0 := HX.out wr hG
      have HCo : Sec (∀ W, Calls Tryd.prog 50 #[.slice (some ⟨b, 0, none⟩) 0 c, .string (bs x)] W fun e w' => e = .returned (.bool false) ∧ Gr W w') := sec (fun W => by
        have := sliceContains_any [] x (some ⟨b, 0, none⟩) 0 c W (Row.nil _ _ _) (by omega)
        simpa using this)
      go_upto_region 7 with (first
        | (go_at_call 8; (with_reducible refine Calls.mono (HDec.out _) ?_); rintro e w2 ⟨A1, c1, B1, d1, rfl, r2, g2⟩)
        | (refine wpList_store_blk rfl 25 (.tmp 8) (.tmp 35) rfl (g := w2.heap.size) (cs' := obA ⟨kd, dt, en, tr, pa, wh, no, ti, ta⟩ A1 c1 B1 d1) rfl rfl (Blk.new w2 _ _) aggOb rfl (obA_one _ _ _ _ _) ?_; intro w3 h3 hg3))
      have z23 : Gr w2 w3 := Gr.only ((Gr.refl w2).alloc _) hg3 (Nat.le_refl _)
      go_wp2_with (first
        | (go_at_call 50; (with_reducible refine Calls.mono (HCo.out _) ?_); rintro e w4 ⟨rfl, g4⟩))
      go_roundg (gk - 1)
      case rel => exact ⟨1, by go_num, by omega, by omega, ((hG.trans g2).trans z23).trans g4⟩
      case measure => omega
    · obtain rfl : i = 1 := by omega
      clear hlt HDec
      obtain ⟨g, hg⟩ : ∃ g, g = wr.heap.size := ⟨_, rfl⟩
      have hwg : w.heap.size ≤ g := by rw [hg]; exact hG.size
      have HW0 : Sec (WrAt (wr.alloc (.cells #[.slice none 0 0, .int .i64 0] 79)) g g ([], 0)) := sec ⟨⟨none, 0, BlkAtP hg, World.ownsRow_nil _ _ _ _⟩, Nat.le_refl _, by simp⟩
      have HW : ∀ q r : St2, ∀ n : Nat, q.1.length ≤ 100 → wNum (n : Int) q = r → Sec (∀ W, WrAt W g g q → Calls Tryd.prog 53 #[.pointer (some ⟨g, 0, none⟩), .int .i64 (n : Int)] W fun e w' => e = .returned (.tuple #[]) ∧ WrAt w' g g r ∧ Below g W w' ∧ KeepT g W w') := fun q r n hq h => sec (fun W hw => by rw [← h]; exact wrNumber g g q (n : Int) W hw (by omega))
      have hnum : ∀ (l : List UInt8) (n : Nat), n < 128 → wNum (n : Int) (l, 0) = (l ++ [UInt8.ofNat n], 0) := fun l n hn => by
        unfold wNum
        rw [if_pos rfl, numS_in (by omega) (by omega), if_pos (by omega), show ((n : Int)).toNat = n by omega, num_small hn]
      have HB1 : Sec (∀ W, WrAt W g g ([], 0) → Calls Tryd.prog 52 #[.pointer (some ⟨g, 0, none⟩), .string (bs [80])] W fun e w' => e = .returned (.tuple #[]) ∧ WrAt w' g g ([80], 0) ∧ Below g W w' ∧ KeepT g W w') := sec (fun W h => wrBytes g g ([], 0) [80] W h (by simp))
      have HN1 := HW ([80], 0) ([80, 1], 0) 1 (by simp) (hnum [80] 1 (by omega))
      have HN2 := HW ([80, 1], 0) ([80, 1, 0], 0) 0 (by simp) (hnum [80, 1] 0 (by omega))
      have HN3 := HW ([80, 1, 0], 0) ([80, 1, 0, 3], 0) 3 (by simp) (hnum [80, 1, 0] 3 (by omega))
      have HB2 : Sec (∀ W, WrAt W g g ([80, 1, 0, 3], 0) → Calls Tryd.prog 52 #[.pointer (some ⟨g, 0, none⟩), .string (bs x)] W fun e w' => e = .returned (.tuple #[]) ∧ WrAt w' g g (pkS, 0) ∧ Below g W w' ∧ KeepT g W w') := sec (fun W h => by
        have := wrBytes g g ([80, 1, 0, 3], 0) x W h (by simp; omega)
        rw [HX0.out] at this ⊢
        exact this)
      have HDn : Sec (∀ W, WrAt W g g (pkS, 0) → Calls Tryd.prog 56 #[.pointer (some ⟨g, 0, none⟩)] W fun e w' => e = .returned (.tuple #[.string (bs pkS), .int .i64 0]) ∧ Gr W w') := sec (fun W h => wrDone g g (pkS, 0) W h)
      have HSu : Sec (∀ W, Gr w W → Calls Tryd.prog 43 #[.string (bs pkS)] W fun e w' => e = .returned (.string (bs (sha pkS))) ∧ Gr W w') := sec (fun W h => sum_any pkS W (HT.out.gr h) (by decide))
      have HBe : Sec (∀ A n d W, Calls Tryd.prog 54 #[.string (bs x), .slice (some ⟨b, 0, none⟩) 0 c, .slice A n d, .slice none 0 0] W fun e w' => e = .returned (.agg #[.int .i64 0, .int .i64 0, .string (bs x)]) ∧ Gr W w') := sec (fun A n d W => best_one x _ A c n d W)
      rw [← HS.out] at HB2 HDn
      rw [← HD.out, ← HS.out] at HSu
      clear HW hnum hx
      go_upto_region 13 with fail
      rw [← hg]
      have GA := hG.alloc (.cells #[.slice none 0 0, .int .i64 0] 79)
      obtain ⟨w3, hw3⟩ : ∃ y, y = wr.alloc (.cells #[.slice none 0 0, .int .i64 0] 79) := ⟨_, rfl⟩
      rw [← hw3] at HW0 GA ⊢
      clear hw3 hg hG
      go_upto_region 15 with (first
        | (go_at_call 52; (with_reducible refine Calls.mono (HB1.out _ HW0.out) ?_); rintro e w4 ⟨rfl, h4, b4, k4⟩)
        | (go_at_call 53; (with_reducible refine Calls.mono (HN1.out _ h4) ?_); rintro e w5 ⟨rfl, h5, b5, k5⟩))
      have G5 : Gr w w5 := Below.trans (Below.trans GA (b4.mono hwg)) (b5.mono hwg)
      obtain ⟨w6, hw6⟩ : ∃ y, y = w5.alloc (.cells (madeCells #[.int .i64 0] 1) 3) := ⟨_, rfl⟩
      have hmk : (Instr.makeSlice 71 (.int .i64 1) (.int .i64 1)).run Tryd.prog w5 = .ok (.slice (some ⟨w5.heap.size, 0, none⟩) 1 1) w6 := by
        rw [hw6]
        exact run_make_row' 71 3 (.int .i64 0) 8 Tryd.underlying71 E.int.info rfl .i64 .i64 1 (by omega) (by omega) w5
      have g56 : Gr w5 w6 := by rw [hw6]; exact (Gr.refl w5).alloc _
      have HW6 := sec (h5.gr g56)
      have HG6 := sec (G5.trans g56)
      obtain ⟨q, hq⟩ : ∃ q, q = w5.heap.size := ⟨_, rfl⟩
      rw [← hq] at hmk
      clear hw6 hq h4 b4 k4 h5 b5 k5 HW0 GA
      go_wp2_with fail
      clear hmk g56 G5
      go_loopg [59, 12, 13, 14] 1 (fun fuel iv _ _ _ wq => ∃ i : Nat, iv = .int .i64 (i : Int) ∧ 1 ≤ i + fuel ∧ i ≤ 1 ∧ Sec (WrAt wq g g (if i = 0 then ([80, 1], 0) else (S, 0))) ∧ Sec (Gr w wq))
      case atStart => exact ⟨0, rfl, by omega, by omega, HW6, HG6⟩
      case round =>
        clear HW6 HG6
        obtain ⟨i, rfl, hik, hi, HWi, HGi⟩ := hrel
        by_cases hlt : i = 0
        · subst hlt
          have x0 := HX.out _ HGi.out
          have W0 : WrAt wr g g ([80, 1], 0) := HWi.out
          go_upto_region 20 with (first
            | (go_at_call 54; (with_reducible refine Calls.mono (HBe.out _ _ _ _) ?_); rintro e w7 ⟨rfl, g7⟩))
          obtain ⟨k, hk⟩ : ∃ k, k = w7.heap.size := ⟨_, rfl⟩
          have B0 : Blk (w7.alloc (.cells #[.int .i64 0, .int .i64 0, .string (bs x)] 83)) k 83 #[.int .i64 0, .int .i64 0, .string (bs x)] := BlkAtP hk
          have hkg : k ≠ g := by
            obtain ⟨A9, c9, hb9, _⟩ := W0.ex
            have := hb9.lt
            have := g7.size
            omega
          rw [← hk]
          have g78 := g7.alloc (.cells #[.int .i64 0, .int .i64 0, .string (bs x)] 83)
          have W8 := W0.gr g78
          have G8 := HGi.out.trans g78
          obtain ⟨w8, hw8⟩ : ∃ y, y = w7.alloc (.cells #[.int .i64 0, .int .i64 0, .string (bs x)] 83) := ⟨_, rfl⟩
          rw [← hw8] at B0 W8 G8 ⊢
          clear hw8 hk g7 g78 W0
          have z0 := B0.cell 0
          go_wp2_with (first
            | (go_at_call 53; first
              | ((with_reducible refine Calls.mono (HN2.out _ W8) ?_); rintro e w9 ⟨rfl, h9, b9, k9⟩; have B9 := k9 _ _ _ hkg (by decide) B0; have y0 := B9.cell 0; have G9 : Gr w w9 := Below.trans G8 (b9.mono hwg); clear W8)
              | ((with_reducible refine Calls.mono (HN3.out _ h9) ?_); rintro e wb ⟨rfl, hb, bb, kb⟩; have Gb : Gr w wb := Below.trans G9 (bb.mono hwg)))
            | (go_at_call 52; (with_reducible refine Calls.mono (HB2.out _ hb) ?_); rintro e wd ⟨rfl, hd, bd, kd'⟩; have Gd : Gr w wd := Below.trans Gb (bd.mono hwg)))
          go_roundg (gk - 1)
          case rel => exact ⟨1, by go_num, by omega, by omega, sec hd, sec Gd⟩
          case measure => omega
        · obtain rfl : i = 1 := by omega
          have W9 : WrAt wr g g (S, 0) := HWi.out
          have hSD : ¬ 9223372036854775807 < S.length + D.length := by rw [HS.out, HD.out, sha_len]; decide
          clear hlt HWi
          go_wp2_with (first
            | (go_at_call 56; (with_reducible refine Calls.mono (HDn.out _ W9) ?_); rintro e wb ⟨rfl, gb⟩; have Gb := HGi.out.trans gb)
            | (go_at_call 43; (with_reducible refine Calls.mono (HSu.out _ Gb) ?_); rintro e wd ⟨rfl, gd⟩))
          go_ret2
          exact ⟨rfl, Gb.trans gd⟩
set_option maxHeartbeats 4000000 in
theorem packs_any (w : World) (hT : TabK w) : Calls Tryd.prog 14 #[] w fun e w' => e = .returned (.bool true) ∧ Gr w w' := by
  have G0 := (Gr.refl w).alloc (.cells #[.string (bs [1, 1, 97])] 9)
  have HWr : Sec (∀ c, Calls Tryd.prog 19 #[.slice (some ⟨w.heap.size, 0, none⟩) 1 c, .slice none 0 0] (w.alloc (.cells #[.string (bs [1, 1, 97])] 9)) fun e w' => e = .returned (.tuple #[.string (bs (pkS ++ sha pkS)), .int .i64 0]) ∧ Gr (w.alloc (.cells #[.string (bs [1, 1, 97])] 9)) w') := sec (fun c => pkWrite_one w.heap.size c _ ((Blk.new w _ _).cell 0) (hT.gr G0))
  have HRd : Sec (∀ W, Gr w W → Calls Tryd.prog 15 #[.string (bs (pkS ++ sha pkS)), .slice none 0 0] W fun e w' => ∃ b off c', e = .returned (.tuple #[.slice (some ⟨b, off, none⟩) 1 c', .int .i64 0]) ∧ w'.cell? ⟨b, off, none⟩ = some (.string (bs pkX)) ∧ Gr W w') := sec (fun W g => by
    refine (pkRead_any (pkS ++ sha pkS) [] none 0 W (hT.gr g) (by rw [List.length_append, sha_len]; decide) (Row.nil _ _ _) (by simp) (by simp)).mono ?_
    rintro e w' ⟨A', n', c', hn, rfl, hr, _, _, g'⟩
    rw [pkR_try] at hn hr ⊢
    simp only [List.length_cons, List.length_nil] at hn
    subst hn
    obtain ⟨b, off, rfl, hc⟩ := StrRow.cell hr (i := 0) (by simp)
    exact ⟨b, off, c', rfl, by simpa using hc, g'⟩)
  obtain ⟨P, hP⟩ : ∃ P, P = pkS ++ sha pkS := ⟨_, rfl⟩
  rw [← hP] at HWr HRd
  clear hP
  go_enter Tryd.func14, Tryd.ntmps14
  go_wp2_with (first
    | (go_at_call 19; (with_reducible refine Calls.mono (HWr.out _) ?_); rintro e w2 ⟨rfl, g2⟩; have G2 := G0.trans g2)
    | (go_at_call 15; (with_reducible refine Calls.mono (HRd.out _ G2) ?_); rintro e w3 ⟨b, off, c', rfl, x0, g3⟩; have G3 := G2.trans g3))
  go_ret
  exact ⟨rfl, G3⟩
end Go.Proofs.YtmgpllakpgjicaaDoor

namespace Go.Proofs.YtmgpllakpgjicaaDoor
open Go.RowKit
set_option linter.unusedVariables false
set_option maxRecDepth 100000 in
set_option maxHeartbeats 1000000 in
theorem start_any (w : World) : Calls Tryd.prog 46 #[] w fun e w' => e = .returned (.agg (s8V startS)) ∧ Gr w w' := by
  go_enter Tryd.func46, Tryd.ntmps46
  go_wp2
  exact bodyPost_ret (v := .agg (s8V startS)) (by simp [results, Tryd.results46, go_sem]; rfl) rfl ⟨rfl, (Gr.refl w).alloc _⟩

theorem be4_len (x : UInt32) : (be4 x).length = 4 := rfl
/-- three bytes and a half: a row of four bytes just built, as a string -/
theorem conv_four (w : World) (x : UInt32) :
    (convert 77 9 (.slice (some ⟨w.heap.size, 0, none⟩) 4 4)).run Tryd.prog (w.alloc (.cells #[.int .u8 ((x.toNat : Int) / 16777216), .int .u8 ((x.toNat : Int) / 65536 % 256), .int .u8 ((x.toNat : Int) / 256 % 256), .int .u8 ((x.toNat : Int) % 256)] 5)) =
      .ok (.string (bs (be4 x))) (w.alloc (.cells #[.int .u8 ((x.toNat : Int) / 16777216), .int .u8 ((x.toNat : Int) / 65536 % 256), .int .u8 ((x.toNat : Int) / 256 % 256), .int .u8 ((x.toNat : Int) % 256)] 5)) := by
  refine run_conv_at Tryd.underlying77 Tryd.underlying5 Tryd.underlying9 _ _ 0 4 (be4 x) ?_
  intro j u hu
  rw [← be4_cells] at hu
  rw [Nat.zero_add, World.cell?_alloc_mark]
  simpa using hu

set_option maxRecDepth 100000 in
set_option maxHeartbeats 1000000 in
theorem rtext_any (S : S8) (w : World) : Calls Tryd.prog 44 #[.agg (s8V S)] w fun e w' => e = .returned (.string (bs (text8 S))) ∧ Gr w w' := by
  go_enter Tryd.func44, Tryd.ntmps44
  go_wp2_with (refine wpList_load_blk rfl 65 (.tmp 1) rfl (g := w.heap.size) rfl (Blk.new w _ _) A.u8 ?_)
  go_loopw [3, 7, 5] (fun v iv _ wr => ∃ (j : Nat) (l : List UInt8), iv = .int .i64 j ∧ j ≤ 8 ∧ v = .string (bs l) ∧ l.length ≤ 4 * j ∧ Sec (l = (S.list.take j).flatMap be4) ∧ Gr w wr)
    (fun _ iv _ _ => 8 - (intOf iv).toNat)
  case atStart => exact ⟨0, [], rfl, by omega, rfl, by simp, sec rfl, (Gr.refl w).alloc _⟩
  case round =>
    obtain ⟨j, l, rfl, hj, rfl, hll, HL, hg⟩ := hrel
    have hcase : j = 0 ∨ j = 1 ∨ j = 2 ∨ j = 3 ∨ j = 4 ∨ j = 5 ∨ j = 6 ∨ j = 7 ∨ j = 8 := by omega
    clear hj
    unfold s8V
    rcases hcase with rfl | rfl | rfl | rfl | rfl | rfl | rfl | rfl | rfl
    · have i0 := index_s8_0 S
      have hx := S.a.toNat_lt
      have hcv := conv_four wr S.a
      have h63 : ¬ 9223372036854775807 < l.length + (be4 S.a).length := by rw [be4_len]; omega
      go_wp2_with fail
      go_roundw
      case rel => exact ⟨1, l ++ be4 S.a, rfl, by omega, rfl, by rw [List.length_append, be4_len]; omega, sec (by rw [HL.out]; rfl), hg.alloc _⟩
      case measure => simp [intOf]
    · have i0 := index_s8_1 S
      have hx := S.b.toNat_lt
      have hcv := conv_four wr S.b
      have h63 : ¬ 9223372036854775807 < l.length + (be4 S.b).length := by rw [be4_len]; omega
      go_wp2_with fail
      go_roundw
      case rel => exact ⟨2, l ++ be4 S.b, rfl, by omega, rfl, by rw [List.length_append, be4_len]; omega, sec (by rw [HL.out]; rfl), hg.alloc _⟩
      case measure => simp [intOf]
    · have i0 := index_s8_2 S
      have hx := S.c.toNat_lt
      have hcv := conv_four wr S.c
      have h63 : ¬ 9223372036854775807 < l.length + (be4 S.c).length := by rw [be4_len]; omega
      go_wp2_with fail
      go_roundw
      case rel => exact ⟨3, l ++ be4 S.c, rfl, by omega, rfl, by rw [List.length_append, be4_len]; omega, sec (by rw [HL.out]; rfl), hg.alloc _⟩
      case measure => simp [intOf]
    · have i0 := index_s8_3 S
      have hx := S.d.toNat_lt
      have hcv := conv_four wr S.d
      have h63 : ¬ 9223372036854775807 < l.length + (be4 S.d).length := by rw [be4_len]; omega
      go_wp2_with fail
      go_roundw
      case rel => exact ⟨4, l ++ be4 S.d, rfl, by omega, rfl, by rw [List.length_append, be4_len]; omega, sec (by rw [HL.out]; rfl), hg.alloc _⟩
      case measure => simp [intOf]
    · have i0 := index_s8_4 S
      have hx := S.e.toNat_lt
      have hcv := conv_four wr S.e
      have h63 : ¬ 9223372036854775807 < l.length + (be4 S.e).length := by rw [be4_len]; omega
      go_wp2_with fail
      go_roundw
      case rel => exact ⟨5, l ++ be4 S.e, rfl, by omega, rfl, by rw [List.length_append, be4_len]; omega, sec (by rw [HL.out]; rfl), hg.alloc _⟩
      case measure => simp [intOf]
    · have i0 := index_s8_5 S
      have hx := S.f.toNat_lt
      have hcv := conv_four wr S.f
      have h63 : ¬ 9223372036854775807 < l.length + (be4 S.f).length := by rw [be4_len]; omega
      go_wp2_with fail
      go_roundw
      case rel => exact ⟨6, l ++ be4 S.f, rfl, by omega, rfl, by rw [List.length_append, be4_len]; omega, sec (by rw [HL.out]; rfl), hg.alloc _⟩
      case measure => simp [intOf]
    · have i0 := index_s8_6 S
      have hx := S.g.toNat_lt
      have hcv := conv_four wr S.g
      have h63 : ¬ 9223372036854775807 < l.length + (be4 S.g).length := by rw [be4_len]; omega
      go_wp2_with fail
      go_roundw
      case rel => exact ⟨7, l ++ be4 S.g, rfl, by omega, rfl, by rw [List.length_append, be4_len]; omega, sec (by rw [HL.out]; rfl), hg.alloc _⟩
      case measure => simp [intOf]
    · have i0 := index_s8_7 S
      have hx := S.h.toNat_lt
      have hcv := conv_four wr S.h
      have h63 : ¬ 9223372036854775807 < l.length + (be4 S.h).length := by rw [be4_len]; omega
      go_wp2_with fail
      go_roundw
      case rel => exact ⟨8, l ++ be4 S.h, rfl, by omega, rfl, by rw [List.length_append, be4_len]; omega, sec (by rw [HL.out]; rfl), hg.alloc _⟩
      case measure => simp [intOf]
    · go_wp2_with fail
      go_ret
      exact ⟨by rw [HL.out]; rfl, hg⟩

set_option maxRecDepth 100000 in
set_option maxHeartbeats 1000000 in
theorem over_any (s : S8) (b : List UInt8) (w : World) (hb : b.length < 4611686018427387904) (hm : b.length % 64 = 0) :
    Calls Tryd.prog 45 #[.agg (s8V s), .string (bs b)] w fun e w' => e = .returned (.agg (s8V (overS s b))) ∧ Gr w w' := by
  have HM := sec hm
  clear hm
  have hz : Blk ((w.alloc (.cells (s8V s) 65)).alloc (.cells zero8 65)) (w.heap.size + 1) 65 zero8 := Blk.new1 w _ _ _
  have hx : Blk ((w.alloc (.cells (s8V s) 65)).alloc (.cells zero8 65)) w.heap.size 65 (s8V s) := (Blk.new w _ _).alloc _
  have HZ := sec hz
  have HX := sec hx
  clear hz hx
  go_enter Tryd.func45, Tryd.ntmps45
  go_wp2_with fail
  go_loopw [5] (fun v wr => ∃ (i : Nat) (S : S8), v = .int .i64 (64 * (i : Int)) ∧ 64 * i ≤ b.length ∧ Sec (overS S (b.drop (64 * i)) = overS s b) ∧ Blk wr w.heap.size 65 (s8V S) ∧ Blk wr (w.heap.size + 1) 65 zero8 ∧ Gr w wr)
    (fun v _ => b.length - (intOf v).toNat)
  case atStart => exact ⟨0, s, rfl, by omega, sec (by rw [Nat.mul_zero, List.drop_zero]), HX.out, HZ.out, ((Gr.refl w).alloc _).alloc _⟩
  case round =>
    obtain ⟨i, S, rfl, hi, HO, hS, hZ, hg⟩ := hrel
    by_cases hlt : 64 * i < b.length
    · have hlt' : 64 * i + 64 ≤ b.length := by have := HM.out; omega
      have q64 : IntKind.i64.wrap (64 * (i : Int) + 64) = 64 * (i : Int) + 64 := IntWalk.i64_in _ (by omega)
      have hli : 64 * (i : Int) < (b.length : Int) := by omega
      have hl2 : 64 * (i : Int) + 64 ≤ (b.length : Int) := by omega
      have hi0 : (0 : Int) ≤ 64 * (i : Int) := by omega
      have hi1 : (0 : Int) ≤ 64 * (i : Int) + 64 := by omega
      have hi2 : 64 * (i : Int) ≤ 64 * (i : Int) + 64 := by omega
      have ht1 : (64 * (i : Int)).toNat = 64 * i := by omega
      have ht2 : (64 * (i : Int) + 64).toNat = 64 * i + 64 := by omega
      go_wp2_with fail
      refine region_still_tail_w 6 (by kernel_rfl) (by kernel_rfl) ?_
      simp only [List.take_succ_cons, List.take_zero, List.drop_succ_cons, List.drop_zero]
      intro wd hwd
      have D2 : Blk wd w.heap.size 65 (s8V S) := by subst hwd; exact hS.drew
      have D4 : Blk wd (w.heap.size + 1) 65 zero8 := by subst hwd; exact hZ.drew
      have Dg : Gr w wd := by subst hwd; exact hg.drew
      clear hwd hS hZ hg
      have c0 : wd.cell? ⟨w.heap.size, 0, none⟩ = some (.int .u32 (S.a.toNat : Int)) := D2.cell 0
      have c1 : wd.cell? ⟨w.heap.size, 1, none⟩ = some (.int .u32 (S.b.toNat : Int)) := D2.cell 1
      have c2 : wd.cell? ⟨w.heap.size, 2, none⟩ = some (.int .u32 (S.c.toNat : Int)) := D2.cell 2
      have c3 : wd.cell? ⟨w.heap.size, 3, none⟩ = some (.int .u32 (S.d.toNat : Int)) := D2.cell 3
      have c4 : wd.cell? ⟨w.heap.size, 4, none⟩ = some (.int .u32 (S.e.toNat : Int)) := D2.cell 4
      have c5 : wd.cell? ⟨w.heap.size, 5, none⟩ = some (.int .u32 (S.f.toNat : Int)) := D2.cell 5
      have c6 : wd.cell? ⟨w.heap.size, 6, none⟩ = some (.int .u32 (S.g.toNat : Int)) := D2.cell 6
      have c7 : wd.cell? ⟨w.heap.size, 7, none⟩ = some (.int .u32 (S.h.toNat : Int)) := D2.cell 7
      repeat still_step
      refine wpStill_nil ?_
      clear c0 c1 c2 c3 c4 c5 c6 c7
      have hsub : sub b (64 * i) (64 * i + 64) = (b.drop (64 * i)).take 64 := by unfold sub; congr 1; omega
      have hsl : (sub b (64 * i) (64 * i + 64)).length = 64 := by rw [sub_len _ _ _ hlt']; omega
      obtain ⟨B, hB⟩ : ∃ B, B = sub b (64 * i) (64 * i + 64) := ⟨_, rfl⟩
      rw [← hB] at hsub hsl ⊢
      obtain ⟨R, hR⟩ : ∃ R, R = blockS S B := ⟨_, rfl⟩
      have HO2 : Sec (overS R (b.drop (64 * (i + 1))) = overS s b) := sec (by
        rw [← HO.out, overS_hi (b := b.drop (64 * i)) (by rw [List.length_drop]; omega), ← hsub, ← hR, List.drop_drop, Nat.mul_add])
      have HSL := sec hsl
      clear hB hsub hsl
      go_wp2_with (first
        | (refine wpList_store_blk rfl 65 (.tmp 2) (.tmp 18) rfl (g := w.heap.size) rfl rfl E2 A.u8 rfl (s8V_one R) ?_; intro w4 h4 hg4)
        | (go_at_call 78; refine (rblock_any S B _ HSL.out).mono ?_; rw [← hR]; rintro e w3 ⟨rfl, g3⟩; clear hR; have E2 := D2.gr g3; have E4 := D4.gr g3; have Eg := Dg.trans g3; clear g3))
      go_roundw
      case rel => exact ⟨i + 1, R, by go_num, by omega, HO2, h4, E4.only hg4 (by omega), Eg.only hg4 (Nat.le_refl _)⟩
      case measure => simp [intOf]; omega
    · have hnl : b.drop (64 * i) = [] := List.drop_eq_nil_of_le (by omega)
      have HE : Sec (S = overS s b) := sec (by rw [← HO.out, hnl, overS_lo (by simp)])
      have hli : ¬ 64 * (i : Int) < (b.length : Int) := by omega
      clear hnl HO
      go_wp2_with (first
        | (refine wpList_load_blk rfl 65 (.tmp 2) rfl (g := w.heap.size) rfl hS A.u8 ?_)
        | (refine wpList_store_blk rfl 65 (.tmp 4) (.tmp 19) rfl (g := w.heap.size + 1) rfl rfl hZ A.u8 rfl (s8V_one S) ?_; intro w4 h4 hg4))
      refine bodyPost_ret (results_blk rfl _ rfl h4 A.u8) rfl ?_
      rw [HE.out]
      exact ⟨rfl, hg.only hg4 (by omega)⟩
end Go.Proofs.YtmgpllakpgjicaaDoor

namespace Go.Proofs.YtmgpllakpgjicaaDoor
open Go.RowKit
set_option linter.unusedVariables false
/-- the eight bytes while they are filled, from behind -/
def pByte (m e : Nat) : Value := .int .u8 ((8 * m / 256 ^ e % 256 : Nat) : Int)
def pArr (m j : Nat) : Array Value := ((List.range 8).map fun i => if 8 - j ≤ i then pByte m (7 - i) else .int .u8 0).toArray
theorem pArr_size (m j : Nat) : (pArr m j).size = 8 := by unfold pArr; simp
theorem pArr_zero (m : Nat) : pArr m 0 = #[.int .u8 0, .int .u8 0, .int .u8 0, .int .u8 0, .int .u8 0, .int .u8 0, .int .u8 0, .int .u8 0] := by kernel_rfl
theorem pArr_set (m j : Nat) (hj : j < 8) : (pArr m j).setIfInBounds (7 - j) (pByte m j) = pArr m (j + 1) := by
  unfold pArr
  rw [List.setIfInBounds_toArray]
  congr 1
  apply List.ext_getElem
  · simp
  · intro i h1 h2
    rw [List.getElem_set]
    simp only [List.getElem_map, List.getElem_range, List.length_set, List.length_map, List.length_range] at h1 ⊢
    by_cases e : 7 - j = i
    · subst e
      rw [if_pos rfl, if_pos (by omega), show 7 - (7 - j) = j by omega]
    · rw [if_neg e]
      by_cases h : 8 - j ≤ i
      · rw [if_pos h, if_pos (by omega)]
      · rw [if_neg h, if_neg (by omega)]
theorem pArr_full (m : Nat) : (pArr m 8).toList = (be8 (8 * m)).map byteV := by
  simp [pArr, List.range_succ, be8, byteV, pByte]

set_option maxRecDepth 100000 in
set_option maxHeartbeats 2000000 in
theorem padded_any (r : List UInt8) (m : Nat) (w : World) (hr : r.length < 1152921504606846976) (hm : m < 1152921504606846976) :
    Calls Tryd.prog 47 #[.string (bs r), .int .i64 m] w fun e w' => e = .returned (.string (bs (padTo r m))) ∧ Gr w w' := by
  have hr1 : ¬ 9223372036854775807 < r.length + 1 := by omega
  have hz := Blk.new w 109 (pArr m 0)
  rw [pArr_zero] at hz
  have HZ := sec hz
  clear hz
  go_enter Tryd.func47, Tryd.ntmps47
  go_wp2_with fail
  go_loop [5] (fun v => ∃ (i : Nat) (l : List UInt8), v = .string (bs l) ∧ i ≤ zerosFor r.length ∧ Sec (l = r ++ [128] ++ List.replicate i 0))
    (fun v => 1152921504606847200 - lenOf v)
  case atStart => exact ⟨0, r ++ [128], rfl, Nat.zero_le _, sec (by simp)⟩
  case round =>
    obtain ⟨i, l, rfl, hi, HL⟩ := hrel
    have hz : zerosFor r.length = (119 - r.length % 64) % 64 := rfl
    have hll : l.length = r.length + 1 + i := by rw [HL.out]; simp; omega
    by_cases hlt : i < zerosFor r.length
    · have t1 : ((l.length : Int) % 64 == 56) = false := by rw [beq_eq_false_iff_ne]; omega
      have t2 : ((l.length : Int) % 64 != 56) = true := by rw [bne_iff_ne]; omega
      have hl200 : l.length < 1152921504606847190 := by omega
      have h63 : ¬ 9223372036854775807 < l.length + 1 := by omega
      have HI := sec hlt
      clear hz hll hlt hi
      go_wp2_with fail
      go_round
      case rel =>
        exact ⟨i + 1, l ++ [0], rfl, HI.out, sec (by rw [HL.out, List.append_assoc, ← List.replicate_succ'])⟩
      case measure => simp [lenOf, bs_size]; omega
    · obtain rfl : i = zerosFor r.length := by omega
      have t1 : ((l.length : Int) % 64 == 56) = true := by rw [beq_iff_eq]; omega
      have t2 : ((l.length : Int) % 64 != 56) = false := by rw [bne_eq_false_iff_eq]; omega
      have hl63 : ¬ 9223372036854775807 < l.length + 8 := by omega
      clear hz hll hlt hi
      have hm8 : (m : Int) * 8 < 18446744073709551616 := by omega
      go_wp2_with fail
      clear t1 t2
      have hl8 : m * 8 = 8 * m / 256 ^ 0 := by omega
      have HN0 : Sec (m * 8 = 8 * m / 256 ^ 0) := sec hl8
      clear hl8
      go_loopw [7, 8] (fun v k wr => ∃ (j N : Nat) (K : Int), v = .int .u64 (N : Int) ∧ k = .int .i64 K ∧ Sec (K = 7 - (j : Int)) ∧ j ≤ 8 ∧ Sec (N = 8 * m / 256 ^ j) ∧ N < 18446744073709551616 ∧ Blk wr w.heap.size 109 (pArr m j) ∧ Gr w wr)
        (fun _ k _ => (intOf k + 1).toNat)
      case atStart => exact ⟨0, m * 8, 7, by simp, rfl, sec (by omega), by omega, HN0, by omega, by rw [pArr_zero]; exact HZ.out, (Gr.refl w).alloc _⟩
      case round =>
        obtain ⟨j, N, K, rfl, rfl, HK, hj, HN, hN, hB, hg⟩ := hrel
        by_cases hlt : j < 8
        · have hK0 : 0 ≤ K := by have := HK.out; omega
          have hK8 : K < 8 := by have := HK.out; omega
          have hKt : K.toNat = 7 - j := by have := HK.out; omega
          have hc : ∃ v, wr.cell? ⟨w.heap.size, 7 - j, none⟩ = some v := ⟨_, (hB.cell _).trans (Array.getElem?_eq_getElem (by rw [pArr_size]; omega))⟩
          obtain ⟨v, hc⟩ := hc
          have hf := hB.frozen (7 - j)
          have HD : Sec (N / 256 = 8 * m / 256 ^ (j + 1)) := sec (by rw [HN.out, Nat.div_div_eq_div_mul, Nat.pow_succ])
          have HP : Sec (pByte m j = .int .u8 ((N : Int) % 256)) := sec (by unfold pByte; rw [← HN.out]; simp)
          go_wp2_with fail
          go_roundw
          case rel => exact ⟨j + 1, N / 256, K - 1, by simp, rfl, sec (by have := HK.out; omega), by omega, HD, by omega, by rw [← pArr_set m j hlt, HP.out]; exact hB.set_ _ _, hg.setCell (Nat.le_refl _) _⟩
          case measure => simp [intOf]; omega
        · obtain rfl : j = 8 := by omega
          obtain rfl : K = -1 := by have := HK.out; omega
          have hcv : (convert 77 9 (.slice (some ⟨w.heap.size, 0, none⟩) 8 8)).run Tryd.prog wr = .ok (.string (bs (be8 (8 * m)))) wr :=
            run_conv_at Tryd.underlying77 Tryd.underlying5 Tryd.underlying9 wr w.heap.size 0 8 (be8 (8 * m)) (fun j u hu => by
              rw [Nat.zero_add, hB.cell, ← pArr_full] at *
              simpa using hu)
          have hl63' : ¬ 9223372036854775807 < l.length + (be8 (8 * m)).length := by rw [be8_len]; exact hl63
          go_wp2_with fail
          go_ret
          exact ⟨by rw [HL.out]; rfl, hg⟩
end Go.Proofs.YtmgpllakpgjicaaDoor

namespace Go.Proofs.YtmgpllakpgjicaaDoor
open Go.RowKit
set_option linter.unusedVariables false
set_option maxRecDepth 100000 in
set_option maxHeartbeats 4000000 in
theorem rsum_any (b : List UInt8) (w : World) (hb : b.length ≤ 576460752303423488) :
    Calls Tryd.prog 12 #[.string (bs b)] w fun e w' => e = .returned (.string (bs (sha b))) ∧ Gr w w' := by
  have e1 : ((b.length : Int) - (b.length : Int) % 64) = ((b.length / 64 * 64 : Nat) : Int) := by omega
  obtain ⟨k, hk⟩ : ∃ k, k = b.length / 64 * 64 := ⟨_, rfl⟩
  rw [← hk] at e1
  have hk1 : k ≤ b.length := by omega
  have hk2 : (k : Int) ≤ (b.length : Int) := by omega
  have hk3 : k % 64 = 0 := by omega
  have HD : Sec (b.drop k = restOf b) := sec (by rw [hk]; rfl)
  have HT : Sec (overS startS (b.take k) = overS startS b) := sec (by rw [hk]; exact overS_take _ _ _ rfl)
  have hl : (b.take k).length = k := by rw [List.length_take]; omega
  have HL := sec hl
  have H3 := sec hk3
  have hrl : (restOf b).length < 1152921504606846976 := by rw [restOf_len]; omega
  have HRL := sec hrl
  have hbl : b.length < 1152921504606846976 := by omega
  clear hk hl hk3 hrl
  have HP : Sec ((padTo (restOf b) b.length).length % 64 = 0) := sec (padTo_mod _ _)
  have HQ : Sec ((padTo (restOf b) b.length).length < 4611686018427387904) := sec (by rw [padTo_len, restOf_len]; unfold zerosFor; omega)
  have HS : Sec (sha b = text8 (overS (overS startS b) (padTo (restOf b) b.length))) := sec rfl
  have HM : Sec (k < 4611686018427387904) := sec (by omega)
  obtain ⟨R, hR⟩ : ∃ R, R = restOf b := ⟨_, rfl⟩
  rw [← hR] at HD HRL HP HQ HS
  obtain ⟨S, hS⟩ : ∃ S, S = overS startS b := ⟨_, rfl⟩
  rw [← hS] at HT HS
  clear hR hS
  go_enter Tryd.func12, Tryd.ntmps12
  go_wp2_with fail
  go_region_held3 (fun w' => Gr w w') (first | assumption | exact (Gr.refl _).drew | exact Gr.refl _)
    (first
      | (go_at_call 46; refine (start_any _).mono ?_; rintro e w1 ⟨rfl, g1⟩; have gg1 : Gr w w1 := Gr.trans (by assumption) g1)
      | (go_at_call 47; rw [HD.out]; refine (padded_any R b.length _ HRL.out hbl).mono ?_; rintro e w3 ⟨rfl, g3⟩; have gg3 : Gr w w3 := Gr.trans (by assumption) g3)
      | (go_at_call 44; refine (rtext_any _ _).mono ?_; rintro e w5 ⟨rfl, g5⟩; have gg5 : Gr w w5 := Gr.trans (by assumption) g5)
      | (go_at_call 45; with_reducible refine Calls.mono (over_any startS (b.take k) _ (by rw [HL.out]; exact HM.out) (by rw [HL.out]; exact H3.out)) ?_; rw [HT.out]; rintro e w2 ⟨rfl, g2⟩; have gg2 : Gr w w2 := Gr.trans (by assumption) g2)
      | (go_at_call 45; refine (over_any S (padTo R b.length) _ HQ.out HP.out).mono ?_; rintro e w4 ⟨rfl, g4⟩; have gg4 : Gr w w4 := Gr.trans (by assumption) g4))
  go_wp2_with fail
  go_ret
  exact ⟨by rw [HS.out]; rfl, gg5⟩
end Go.Proofs.YtmgpllakpgjicaaDoor

namespace Go.Proofs.YtmgpllakpgjicaaDoor
set_option maxRecDepth 100000
open Go.RowKit
set_option linter.unusedVariables false
theorem Row.onlyR {w w' : World} {size n : Nat} {A : Option Addr} {vs : List Value} {row : Option Nat} (h : Row w size A n vs) (hg : w.grownBy w' row) (hne : ∀ b off, A = some ⟨b, off, none⟩ → row ≠ some b) : Row w' size A n vs :=
  ⟨h.len, fun hn => by
    obtain ⟨b, off, e, hc⟩ := h.at_ hn
    exact ⟨b, off, e, fun i v hv => hg.cell (hc i v hv) (fun e' => hne b off e e'.symm)⟩⟩
/-- a round of a pack's reading -/
structure RPkAt (V : List (List UInt8) × Int) (F : List UInt8 → Option (List UInt8)) (many K : Nat) (w W : World) (g : Nat) (C : Option Addr) (n : Nat) (ids : List (List UInt8)) (A B : Option Addr) (i c d : Nat) (L : List (List UInt8 × Nat)) (q : St) (wr : World) : Prop where
  len : L.length = i
  own1 : wr.ownsRow W.heap.size 9 1 (.slice A i c) i ((L.map (·.1)).map strV)
  own2 : wr.ownsRow W.heap.size 3 1 (.slice B i d) i (L.map fun x => intV (x.2 : Int))
  rd : RdAt 62 wr g q
  idr : StrRow wr C n ids
  idb : ∀ b off, C = some ⟨b, off, none⟩ → b < W.heap.size ∧ b ≠ g
  sz : PkSz L
  ql : q.1.length ≤ K
  val : V = pkGo F (many - i) L q
  gr : Gr w wr
  size : W.heap.size ≤ wr.heap.size
  gW : g < W.heap.size
theorem RPkAt.rows {V : List (List UInt8) × Int} {F : List UInt8 → Option (List UInt8)} {many K : Nat} {w W : World} {g n : Nat} {C : Option Addr} {ids : List (List UInt8)} {A B : Option Addr} {i c d : Nat} {L : List (List UInt8 × Nat)} {q : St} {wr : World}
    (h : RPkAt V F many K w W g C n ids A B i c d L q wr) : PkRows wr g A B i L :=
  ⟨Row.own h.own1, Row.own h.own2, own_atP h.own1 h.gW, own_atP h.own2 h.gW⟩
theorem outF_at (out : List (List UInt8)) (j : Nat) (h : j < out.length) (id : List UInt8) : outF (out.take (j + 1)) id = if sha out[j] = id then some out[j] else outF (out.take j) id := by
  rw [outF_take out j h]
  simp only [mset]
  by_cases he : id = sha out[j]
  · rw [if_pos he, if_pos he.symm]
  · rw [if_neg he, if_neg (fun e => he e.symm)]

set_option maxHeartbeats 32000000 in
theorem rpkRead_any (b : List UInt8) (out : List (List UInt8)) (A : Option Addr) (c : Nat) (w : World) (hb : b.length ≤ 1099511627775) (ho : StrRow w A out.length out) (hol : out.length ≤ 1099511627775) (hoz : ∀ x ∈ out, x.length ≤ 1048576) :
    Calls Tryd.prog 17 #[.string (bs b), .slice A out.length c] w (ListPost w (pkR b out)) := by
  have HId : Sec (∀ x W, x.length ≤ 1048576 → Calls Tryd.prog 12 #[.string (bs x)] W fun e w' => e = .returned (.string (bs (sha x))) ∧ Gr W w') := sec (fun x W h => rsum_any x W (by omega))
  have HSu : Sec (∀ x W, x.length ≤ 1099511627775 → Calls Tryd.prog 12 #[.string (bs x)] W fun e w' => e = .returned (.string (bs (sha x))) ∧ Gr W w') := sec (fun x W h => rsum_any x W (by omega))
  obtain ⟨V, hV⟩ : ∃ V, V = pkR b out := ⟨_, rfl⟩
  obtain ⟨e, he⟩ : ∃ e, e = b.length - 32 := ⟨_, rfl⟩
  have HV : Sec (V = if b.length < 33 ∨ b.take 1 ≠ [80] then ([], 2) else if sha (b.take e) ≠ b.drop e then ([], 5) else if (aftN (sub b 1 e, 0)).2 ≠ 0 then ([], 2) else if 400 < nxtN (sub b 1 e, 0) then ([], 6) else pkGo (outF out) (nxtN (sub b 1 e, 0)) [] (aftN (sub b 1 e, 0))) := sec (by rw [hV, he]; rfl)
  have HX0 := sec ho
  have HOZ := sec hoz
  rw [← hV]
  clear hV ho hoz
  by_cases h33 : b.length < 33
  · have q33 : (b.length : Int) < 33 := by omega
    have HX : Sec (V = ([], 2)) := sec (by rw [HV.out, if_pos (.inl h33)])
    clear h33 HV he
    go_enter Tryd.func17, Tryd.ntmps17
    go_wp2_with fail
    go_ret2
    rw [HX.out]
    exact ListPost.no _ (Gr.refl _)
  have q33 : ¬ (b.length : Int) < 33 := by omega
  have hb0 : (1 : Int) ≤ (b.length : Int) := by omega
  cases htk : b.take 1 == [80] with
  | false =>
    have HX : Sec (V = ([], 2)) := sec (by rw [HV.out, if_pos (.inr (by simpa using htk))])
    clear h33 HV he
    go_enter Tryd.func17, Tryd.ntmps17
    go_wp2_with fail
    go_ret2
    rw [HX.out]
    exact ListPost.no _ (Gr.refl _)
  | true =>
  have HV1 : Sec (V = if sha (b.take e) ≠ b.drop e then ([], 5) else if (aftN (sub b 1 e, 0)).2 ≠ 0 then ([], 2) else if 400 < nxtN (sub b 1 e, 0) then ([], 6) else pkGo (outF out) (nxtN (sub b 1 e, 0)) [] (aftN (sub b 1 e, 0))) := sec (by
    rw [HV.out, if_neg]
    intro h
    rcases h with h | h
    · exact h33 h
    · exact h (by simpa using htk))
  have heb : e ≤ b.length := by omega
  have he1 : (1 : Int) ≤ (e : Int) := by omega
  have heb' : (e : Int) ≤ (b.length : Int) := by omega
  have hwr : IntKind.i64.wrap ((b.length : Int) - 32) = (e : Int) := by rw [show (b.length : Int) - 32 = (e : Int) by omega]; exact IntWalk.i64_in _ (by omega)
  have hel : (b.take e).length ≤ 1099511627775 := by rw [List.length_take]; omega
  have hsl : (sub b 1 e).length ≤ 1099511627775 := by rw [sub_len _ _ _ heb]; omega
  have HSb := sec (fun W => HSu.out (b.take e) W hel)
  clear h33 HV he HSu hel
  cases hq : sha (b.take e) == b.drop e with
  | false =>
    have hq' : ¬ sha (b.take e) = b.drop e := by simpa using hq
    have HX : Sec (V = ([], 5)) := sec (by rw [HV1.out, if_pos hq'])
    obtain ⟨S, hS⟩ : ∃ S, S = sha (b.take e) := ⟨_, rfl⟩
    rw [← hS] at HSb hq
    clear hq' hS HV1
    go_enter Tryd.func17, Tryd.ntmps17
    go_upto_region 4 with fail
    have g1d : Gr w w.drew := (Gr.refl _).drew
    go_region_held3 (fun w' => Gr w w') (first | with_reducible assumption | exact (Gr.refl _).drew | exact Gr.refl _ | fail)
      (first
        | (go_at_call 12; (with_reducible refine Calls.mono (HSb.out w.drew) ?_); rintro e w2 ⟨rfl, g2⟩; have gg2 : Gr w w2 := Gr.trans g1d g2)
        | fail)
    all_goals (go_wp2_with fail; go_ret2; rw [HX.out]; exact ListPost.no _ gg2)
  | true =>
  have hq' : sha (b.take e) = b.drop e := by simpa using hq
  obtain ⟨s0, hs0⟩ : ∃ s, s = sub b 1 e := ⟨_, rfl⟩
  obtain ⟨many, hmany⟩ : ∃ n, n = nxtN (s0, 0) := ⟨_, rfl⟩
  obtain ⟨⟨s1, e1⟩, hq1⟩ : ∃ q, q = aftN (s0, 0) := ⟨_, rfl⟩
  have hsl0 : s0.length ≤ 1099511627775 := by rw [hs0]; exact hsl
  have hsl1 : s1.length ≤ 1099511627775 := by have := aftN_leO (s0, 0); rw [← hq1, hs0] at this; simp only at this; omega
  have hml : many < 4611686018427387904 := by rw [hmany]; exact nxtN_ltO _
  have HV2 : Sec (V = if e1 ≠ 0 then ([], 2) else if 400 < many then ([], 6) else pkGo (outF out) many [] (s1, e1)) := sec (by rw [HV1.out, if_neg (by simp [hq']), ← hs0, ← hmany, ← hq1])
  have HNu : Sec (∀ g W, RdAt 62 W g (s0, 0) → Calls Tryd.prog 39 #[.pointer (some ⟨g, 0, none⟩)] W fun e w' => e = .returned (.int .i64 (many : Int)) ∧ RdAt 62 w' g (s1, e1) ∧ W.grownBy w' (some g)) := sec (fun g W h => by rw [hmany, hq1]; exact ruNumber g (s0, 0) W h)
  rw [hq'] at HSb
  have HSE := sec hs0
  clear hq hq' HV1 hmany hq1 hs0
  obtain ⟨n, hn⟩ : ∃ n, n = out.length := ⟨_, rfl⟩
  have HN := sec hn
  rw [← hn] at HX0 hol ⊢
  clear hn
  go_enter Tryd.func17, Tryd.ntmps17
  go_upto_region 4 with fail
  have g1d : Gr w w.drew := (Gr.refl _).drew
  go_region_held3 (fun w' => Gr w w') (first | with_reducible assumption | exact (Gr.refl _).drew | exact Gr.refl _ | fail)
    (first
      | (go_at_call 12; (with_reducible refine Calls.mono (HSb.out w.drew) ?_); rintro e w2 ⟨rfl, g2⟩; have gg2 : Gr w w2 := Gr.trans g1d g2)
      | fail)
  go_upto_region 7 with fail
  rw [← HSE.out]
  obtain ⟨g, hg⟩ : ∃ g, g = w2.heap.size := ⟨_, rfl⟩
  rw [← hg]
  have HD0 : Sec (RdAt 62 (w2.alloc (.cells #[.string (bs s0), .int .i64 0] 62)) g (s0, 0)) := sec ⟨by rw [hg]; exact Blk.new _ _ _, by simp only; omega, by simp⟩
  have HG2 := sec (gg2.alloc (.cells #[.string (bs s0), .int .i64 0] 62))
  have hwg : w.heap.size ≤ g := by rw [hg]; exact gg2.size
  obtain ⟨w3, hw3⟩ : ∃ y, y = w2.alloc (.cells #[.string (bs s0), .int .i64 0] 62) := ⟨_, rfl⟩
  rw [← hw3] at HD0 HG2 ⊢
  clear hg hw3 gg2 g2 g1d
  by_cases he1 : e1 = 0
  case neg =>
    have qb : ((e1 : Int) != 0) = true := by rw [bne_iff_ne]; omega
    have HX : Sec (V = ([], 2)) := sec (by rw [HV2.out, if_pos he1])
    clear he1
    go_wp2_with (first
      | (go_at_call 39; (with_reducible refine Calls.mono (HNu.out _ _ HD0.out) ?_); rintro e w6 ⟨rfl, d6, g6⟩; have G6 := Gr.only HG2.out g6 hwg; have y1 : w6.cell? ⟨g, 1, none⟩ = some (.int .i64 (e1 : Int)) := d6.blk.cell 1))
    go_ret2
    rw [HX.out]
    exact ListPost.no _ G6
  subst he1
  by_cases h400 : 400 < many
  · have q4 : (400 : Int) < (many : Int) := by omega
    have HX : Sec (V = ([], 6)) := sec (by rw [HV2.out, if_neg (by simp), if_pos h400])
    clear h400
    go_wp2_with (first
      | (go_at_call 39; (with_reducible refine Calls.mono (HNu.out _ _ HD0.out) ?_); rintro e w6 ⟨rfl, d6, g6⟩; have G6 := Gr.only HG2.out g6 hwg; have y1 : w6.cell? ⟨g, 1, none⟩ = some (.int .i64 ((0 : Nat) : Int)) := d6.blk.cell 1))
    go_ret2
    rw [HX.out]
    exact ListPost.no _ G6
  have q4 : ¬ (400 : Int) < (many : Int) := by omega
  have HV3 : Sec (V = pkGo (outF out) many [] (s1, 0)) := sec (by rw [HV2.out, if_neg (by simp), if_neg h400])
  have hm4 : many ≤ 400 := by omega
  clear h400 HV2
  go_wp2_with (first
    | (go_at_call 39; (with_reducible refine Calls.mono (HNu.out _ _ HD0.out) ?_); rintro e w6 ⟨rfl, d6, g6⟩; have G6 := Gr.only HG2.out g6 hwg; have y1 : w6.cell? ⟨g, 1, none⟩ = some (.int .i64 ((0 : Nat) : Int)) := d6.blk.cell 1))
  have HD6 := sec d6
  have HG6 := sec G6
  have hgs : g < w6.heap.size := d6.blk.lt
  have hw6 : w.heap.size ≤ w6.heap.size := G6.size
  clear HD0 HG2 d6 g6 G6 y1 HNu HSE
  go_loopg [64, 9, 11] n (fun fuel iv ov _ wr => ∃ (i : Nat) (C : Option Addr) (d : Nat), iv = .int .i64 (i : Int) ∧ ov = .slice C i d ∧ n ≤ i + fuel ∧ i ≤ n ∧ Sec (wr.ownsRow w6.heap.size 9 1 (.slice C i d) i (((out.take i).map sha).map strV)) ∧ Sec (Gr w6 wr))
  case atStart => exact ⟨0, none, 0, rfl, rfl, by omega, by omega, sec (World.ownsRow_nil _ _ _ _), sec (Gr.refl _)⟩
  case round =>
    obtain ⟨i, C, d, rfl, rfl, hik, hi, HO, HG⟩ := hrel
    by_cases hlt : i < n
    · have hii : (i : Int) < (n : Int) := by omega
      have hlt' : i < out.length := by rw [← HN.out]; exact hlt
      obtain ⟨bb, off, rfl, x0⟩ := (HX0.out.gr (HG6.out.trans HG.out)).cell hlt'
      have hxz := HOZ.out _ (List.getElem_mem hlt')
      have HTK : Sec (((out.take (i + 1)).map sha).map strV = ((out.take i).map sha).map strV ++ [.string (bs (sha out[i]))]) := sec (by rw [List.take_succ_eq_append_getElem hlt', List.map_append, List.map_append]; rfl)
      obtain ⟨x, hx⟩ : ∃ x, x = out[i] := ⟨_, rfl⟩
      rw [← hx] at x0 hxz HTK
      have HIx := sec (HId.out x)
      obtain ⟨X, hX⟩ : ∃ X, X = sha x := ⟨_, rfl⟩
      rw [← hX] at HTK HIx
      have HLT := sec hlt
      have HXZ := sec hxz
      have hbb : (i + 1) * 16 ≤ 140737488355328 := by omega
      have hmm : i + 1 ≤ maxLen := by unfold maxLen; omega
      clear hlt hlt' hx hX hxz
      go_wp2_with (first
        | (go_at_call 12; (with_reducible refine Calls.mono (HIx.out _ HXZ.out) ?_); rintro e w3 ⟨rfl, g3⟩; have o3 := own_gr HO.out g3; have G3 := HG.out.trans g3; have S3 := G3.size)
        | (at_builtin; refine wpList_append_oneB E.str rfl (.tmp 68) (.tmp 71) rfl rfl o3 rfl rfl hbb hmm S3 ?_; intro g5 c5 w5 o5 hg5))
      go_roundg (gk - 1)
      case rel =>
        exact ⟨i + 1, some ⟨g5, 0, none⟩, c5, by go_num, rfl, by omega, HLT.out, sec (by rw [HTK.out]; exact o5), sec (G3.grown hg5 (fun k hk => (o3.lt k hk).1))⟩
      case measure => have := HLT.out; omega
    · obtain rfl : i = n := by omega
      have HIR : Sec (StrRow wr C i (out.map sha)) := sec (by have := Row.own HO.out; rwa [List.take_of_length_le (by rw [← HN.out]; exact Nat.le_refl _)] at this)
      have HIB : Sec (∀ b off, C = some ⟨b, off, none⟩ → b < wr.heap.size ∧ b ≠ g) := sec (fun b off e => by
        have hbk : (Value.slice C i d).ownBlock = some b := by rw [e]; rfl
        have := HO.out.lt b hbk
        exact ⟨this.2, by omega⟩)
      have HD1 := sec (HD6.out.gr HG.out)
      have HG1 := sec (HG6.out.trans HG.out)
      have hgr : g < wr.heap.size := Nat.lt_of_lt_of_le hgs HG.out.size
      have hwr0 : w.heap.size ≤ wr.heap.size := HG1.out.size
      obtain ⟨w7, hw7⟩ : ∃ y, y = wr := ⟨_, rfl⟩
      rw [← hw7] at HIR HIB HD1 HG1 hgr hwr0 ⊢
      have HS0 : Sec (RPkAt V (outF out) many 1099511627775 w w7 g C i (out.map sha) none none 0 0 0 [] (s1, 0) w7) := sec ⟨rfl, World.ownsRow_nil _ _ _ _, World.ownsRow_nil _ _ _ _, HD1.out, HIR.out, HIB.out, ⟨by simp, by simp⟩, hsl1, HV3.out, HG1.out, Nat.le_refl _, hgr⟩
      clear hlt hw7 HIR HIB HD1 HG1 HD6 HG6 HO HG HV3 hik hi hgs hw6 HId HSb
      go_wp2_with fail
      go_loopg [14, 12, 13, 15, 16, 17, 18, 19, 20, 21, 22, 23, 24, 25, 26, 28] many (fun fuel iv lv dv _ _ _ _ _ _ _ _ _ _ _ _ _ wr => ∃ (i' : Nat) (A0 B0 : Option Addr) (c0 d0 : Nat), iv = .int .i64 (i' : Int) ∧ lv = .slice A0 i' c0 ∧ dv = .slice B0 i' d0 ∧ many ≤ i' + fuel ∧ i' ≤ many ∧ Sec (∃ L q, RPkAt V (outF out) many 1099511627775 w w7 g C i (out.map sha) A0 B0 i' c0 d0 L q wr))
      case atStart => exact ⟨0, none, none, 0, 0, rfl, rfl, rfl, by omega, by omega, sec ⟨_, _, HS0.out⟩⟩
      case round =>
        clear HS0
        obtain ⟨j, A0, B0, c0, d0, rfl, rfl, rfl, hik, hi, HP⟩ := hrel
        obtain ⟨gO, hgO⟩ : ∃ x, x = gk := ⟨_, rfl⟩
        subst hgO
        obtain ⟨L, q, Pt⟩ := HP.out
        by_cases hlt : j < many
        · have hii : (j : Int) < (many : Int) := by omega
          obtain ⟨U, hU⟩ : ∃ U, U = pk1 (outF out) L q := ⟨_, rfl⟩
          have hok := pk1_ok (F := outF out) (L := L) (q := q) (k := 1099511627775) Pt.ql (by omega)
          have hval := Pt.val
          rw [show many - j = (many - (j + 1)) + 1 by omega, pkGo, ← hU] at hval
          rw [← hU] at hok
          have HVi := sec hval
          have HPP := sec Pt
          have HLT := sec hlt
          have HG1W : Sec (∀ w1, wr.grownBy w1 (some g) → Gr w w1) := sec (fun w1 h => Gr.only Pt.gr h hwg)
          have HOK := sec hok
          obtain ⟨how, hhow⟩ : ∃ x, x = nxtN q := ⟨_, rfl⟩
          obtain ⟨⟨s2, e2⟩, hq1⟩ : ∃ x, x = aftN q := ⟨_, rfl⟩
          have HU : Sec (U = if e2 ≠ 0 ∨ 2 < how then (([], 0, 2), (s2, e2)) else if how = 0 then pkW (s2, e2) else if how = 1 then pkE L (s2, e2) else pkO (outF out) (s2, e2)) := sec (by rw [hU, hhow]; unfold pk1; rw [← hq1])
          have hs2 : s2.length ≤ 1099511627775 := by have h1 := aftN_leO q; rw [← hq1] at h1; have h2 := Pt.ql; simp only at h1; omega
          have hhl : how < 4611686018427387904 := by rw [hhow]; exact nxtN_ltO q
          have H1 : Sec (Calls Tryd.prog 39 #[.pointer (some ⟨g, 0, none⟩)] wr fun e w' => e = .returned (.int .i64 (how : Int)) ∧ RdAt 62 w' g (s2, e2) ∧ wr.grownBy w' (some g)) := sec (by rw [hhow, hq1]; exact ruNumber g q wr Pt.rd)
          have hjn : j ≤ 400 := by omega
          clear hU hok hval hhow hq1 hlt Pt HP
          -- what comes of it
          have HERR : Sec (∀ e : Nat, U.1.2.2 = e → e ≠ 0 → V = ([], (e : Int))) := sec (fun e h he => by rw [HVi.out, if_pos (by rw [h]; exact he), h])

          by_cases he2 : e2 = 0
          case neg =>
            have qb : ((e2 : Int) != 0) = true := by rw [bne_iff_ne]; omega
            have HX : Sec (V = ([], (2 : Int))) := sec (HERR.out 2 (by rw [HU.out, if_pos (.inl he2)]) (by decide))
            clear he2
            go_wp2_with (first | (go_at_call 39; (with_reducible refine Calls.mono H1.out ?_); rintro e v1 ⟨rfl, d1, g1⟩; have y1 : v1.cell? ⟨g, 1, none⟩ = some (.int .i64 (e2 : Int)) := d1.blk.cell 1))
            go_ret2
            rw [HX.out]
            exact ListPost.no _ (HG1W.out _ g1)
          subst he2
          by_cases hh2 : 2 < how
          · have qh : (2 : Int) < (how : Int) := by omega
            have HX : Sec (V = ([], (2 : Int))) := sec (HERR.out 2 (by rw [HU.out, if_pos (.inr hh2)]) (by decide))
            clear hh2
            go_wp2_with (first | (go_at_call 39; (with_reducible refine Calls.mono H1.out ?_); rintro e v1 ⟨rfl, d1, g1⟩; have y1 : v1.cell? ⟨g, 1, none⟩ = some (.int .i64 ((0 : Nat) : Int)) := d1.blk.cell 1))
            go_ret2
            rw [HX.out]
            exact ListPost.no _ (HG1W.out _ g1)
          have qh : ¬ (2 : Int) < (how : Int) := by omega
          have HU2 : Sec (U = if how = 0 then pkW (s2, 0) else if how = 1 then pkE L (s2, 0) else pkO (outF out) (s2, 0)) := sec (by rw [HU.out, if_neg (by omega)])
          clear HU
          go_upto_if 91 with (first | (go_at_call 39; (with_reducible refine Calls.mono H1.out ?_); rintro e v1 ⟨rfl, d1, g1⟩; have y1 : v1.cell? ⟨g, 1, none⟩ = some (.int .i64 ((0 : Nat) : Int)) := d1.blk.cell 1))
          clear H1
          have HD1 := sec d1
          have HG1 := sec g1
          clear y1 d1 g1
          go_cut [16, 17] from 90 to 165 (fun v16 v17 wx => v16 = .string (bs U.1.1) ∧ v17 = .int .i64 (U.1.2.1 : Int) ∧ Sec (U.1.2.2 = 0 ∧ RdAt 62 wx g U.2 ∧ wr.grownBy wx (some g)))
          case first =>
            by_cases h0 : how = 0
            · subst h0
              obtain ⟨k, hk⟩ : ∃ x, x = nxtN (s2, 0) := ⟨_, rfl⟩
              obtain ⟨q2, hq2⟩ : ∃ x, x = aftN (s2, 0) := ⟨_, rfl⟩
              obtain ⟨x, hx⟩ : ∃ x, x = nxtB (k : Int) q2 := ⟨_, rfl⟩
              obtain ⟨⟨s3, e3⟩, hq3⟩ : ∃ x, x = aftB (k : Int) q2 := ⟨_, rfl⟩
              have hkl : k < 4611686018427387904 := by rw [hk]; exact nxtN_ltO _
              have HU3 : Sec (U = if e3 ≠ 0 then (([], 0, 2), (s3, e3)) else ((x, 0, 0), (s3, e3))) := sec (by rw [HU2.out, if_pos rfl]; unfold pkW; rw [← hk, ← hq2, ← hx, ← hq3])
              have H2 : Sec (∀ W, RdAt 62 W g (s2, 0) → Calls Tryd.prog 39 #[.pointer (some ⟨g, 0, none⟩)] W fun e w' => e = .returned (.int .i64 (k : Int)) ∧ RdAt 62 w' g q2 ∧ W.grownBy w' (some g)) := sec (fun W h => by rw [hk, hq2]; exact ruNumber g (s2, 0) W h)
              have H3 : Sec (∀ W, RdAt 62 W g q2 → Calls Tryd.prog 41 #[.pointer (some ⟨g, 0, none⟩), .int .i64 (k : Int)] W fun e w' => e = .returned (.string (bs x)) ∧ RdAt 62 w' g (s3, e3) ∧ W.grownBy w' (some g)) := sec (fun W h => by rw [hx, hq3]; exact ruTake g q2 (k : Int) W h (by omega))
              clear hk hq2 hx hq3 HU2
              by_cases he3 : e3 = 0
              · subst he3
                have HX : Sec (U = ((x, 0, 0), (s3, 0))) := sec (by rw [HU3.out, if_neg (by simp)])
                go_wp2_with (first | (go_at_call 39; (with_reducible refine Calls.mono (H2.out _ HD1.out) ?_); rintro e v2 ⟨rfl, d2, g2⟩; have G2 := only_trans HG1.out g2) | (go_at_call 41; (with_reducible refine Calls.mono (H3.out _ d2) ?_); rintro e v3 ⟨rfl, d3, g3⟩; have G3 := only_trans G2 g3; have y3 : v3.cell? ⟨g, 1, none⟩ = some (.int .i64 ((0 : Nat) : Int)) := d3.blk.cell 1))
                go_meet
                exact ⟨by have h := HX.out; subst h; rfl, by have h := HX.out; subst h; rfl, sec ⟨by rw [HX.out], by rw [HX.out]; exact d3, G3⟩⟩
              · have qb : ((e3 : Int) != 0) = true := by rw [bne_iff_ne]; omega
                have HX : Sec (V = ([], (2 : Int))) := sec (HERR.out 2 (by rw [HU3.out, if_pos he3]) (by decide))
                clear he3
                go_wp2_with (first | (go_at_call 39; (with_reducible refine Calls.mono (H2.out _ HD1.out) ?_); rintro e v2 ⟨rfl, d2, g2⟩; have G2 := only_trans HG1.out g2) | (go_at_call 41; (with_reducible refine Calls.mono (H3.out _ d2) ?_); rintro e v3 ⟨rfl, d3, g3⟩; have G3 := only_trans G2 g3; have y3 : v3.cell? ⟨g, 1, none⟩ = some (.int .i64 (e3 : Int)) := d3.blk.cell 1))
                go_ret2
                rw [HX.out]
                exact ListPost.no _ (HG1W.out _ G3)
            have q0 : ((how : Int) == 0) = false := by rw [beq_eq_false_iff_ne]; omega
            by_cases h1 : how = 1
            · subst h1
              obtain ⟨k, hk⟩ : ∃ x, x = nxtN (s2, 0) := ⟨_, rfl⟩
              obtain ⟨⟨s3, e3⟩, hq2⟩ : ∃ x, x = aftN (s2, 0) := ⟨_, rfl⟩
              have hkl : k < 4611686018427387904 := by rw [hk]; exact nxtN_ltO _
              have hs3 : s3.length ≤ 1099511627775 := by have := aftN_leO (s2, 0); rw [← hq2] at this; simp only at this; omega
              have HU3 : Sec (U = if e3 ≠ 0 then (([], 0, 2), (s3, e3)) else (match L[k]? with | none => (([], 0, 3), (s3, e3)) | some x => pkT (s3, e3) x.1 x.2)) := sec (by rw [HU2.out, if_neg (by simp), if_pos rfl]; unfold pkE; rw [← hk, ← hq2]; try rfl)
              have H2 : Sec (∀ W, RdAt 62 W g (s2, 0) → Calls Tryd.prog 39 #[.pointer (some ⟨g, 0, none⟩)] W fun e w' => e = .returned (.int .i64 (k : Int)) ∧ RdAt 62 w' g (s3, e3) ∧ W.grownBy w' (some g)) := sec (fun W h => by rw [hk, hq2]; exact ruNumber g (s2, 0) W h)
              clear hk hq2 HU2
              by_cases he3 : e3 = 0
              case neg =>
                have qb : ((e3 : Int) != 0) = true := by rw [bne_iff_ne]; omega
                have HX : Sec (V = ([], (2 : Int))) := sec (HERR.out 2 (by rw [HU3.out, if_pos he3]) (by decide))
                clear he3
                go_wp2_with (first | (go_at_call 39; (with_reducible refine Calls.mono (H2.out _ HD1.out) ?_); rintro e v2 ⟨rfl, d2, g2⟩; have G2 := only_trans HG1.out g2; have y2 : v2.cell? ⟨g, 1, none⟩ = some (.int .i64 (e3 : Int)) := d2.blk.cell 1))
                go_ret2
                rw [HX.out]
                exact ListPost.no _ (HG1W.out _ G2)
              subst he3
              have hln := HPP.out.len
              by_cases hkn : j ≤ k
              · have qk : (j : Int) ≤ (k : Int) := by omega
                have HX : Sec (V = ([], (3 : Int))) := sec (HERR.out 3 (by rw [HU3.out, if_neg (by simp), List.getElem?_eq_none (by omega)]) (by decide))
                clear hkn hln
                go_wp2_with (first | (go_at_call 39; (with_reducible refine Calls.mono (H2.out _ HD1.out) ?_); rintro e v2 ⟨rfl, d2, g2⟩; have G2 := only_trans HG1.out g2; have y2 : v2.cell? ⟨g, 1, none⟩ = some (.int .i64 ((0 : Nat) : Int)) := d2.blk.cell 1))
                go_ret2
                rw [HX.out]
                exact ListPost.no _ (HG1W.out _ G2)
              have qk : ¬ (j : Int) ≤ (k : Int) := by omega
              have hkL : k < L.length := by omega
              have HCl := sec (fun W (h : PkRows W g A0 B0 j L) => h.cell hkL)
              have hbl := HPP.out.sz.len _ (List.getElem_mem hkL)
              have hde := HPP.out.sz.deep _ (List.getElem_mem hkL)
              have HU4 : Sec (U = pkT (s3, 0) L[k].1 L[k].2) := sec (by rw [HU3.out, if_neg (by simp), List.getElem?_eq_getElem hkL])
              obtain ⟨y, hy⟩ : ∃ y, y = L[k] := ⟨_, rfl⟩
              rw [← hy] at HU4 HCl hbl hde
              clear hy HU3 hkn hln
              obtain ⟨bse, dp⟩ := y
              simp only at HU4 HCl hbl hde
              have hk9 : k ≤ 400 := by omega
              clear hkL
              obtain ⟨T, hT⟩ : ∃ x, x = nxtT (s3, 0) := ⟨_, rfl⟩
              obtain ⟨⟨s4, e4⟩, hq4⟩ : ∃ x, x = aftT (s3, 0) := ⟨_, rfl⟩
              have hTl : T.length ≤ 1099511627775 := by have := nxtT_leO (s3, 0); rw [← hT] at this; simp only at this; omega
              have HU5 : Sec (U = if e4 ≠ 0 then (([], 0, 2), (s4, e4)) else if 8 ≤ dp then (([], 0, 10), (s4, e4)) else (((applyR bse T).1, dp + 1, (applyR bse T).2), (s4, e4))) := sec (by rw [HU4.out]; unfold pkT; rw [← hT, ← hq4])
              have H4 : Sec (∀ W, RdAt 62 W g (s3, 0) → Calls Tryd.prog 40 #[.pointer (some ⟨g, 0, none⟩)] W fun e w' => e = .returned (.string (bs T)) ∧ RdAt 62 w' g (s4, e4) ∧ W.grownBy w' (some g)) := sec (fun W h => by rw [hT, hq4]; exact ruText g (s3, 0) W h)
              obtain ⟨Z1, hZ1⟩ : ∃ Z, Z = (applyR bse T).1 := ⟨_, rfl⟩
              obtain ⟨Z2, hZ2⟩ : ∃ Z, Z = (applyR bse T).2 := ⟨_, rfl⟩
              have HA : Sec (∀ W, Calls Tryd.prog 51 #[.string (bs bse), .string (bs T)] W fun e w' => e = .returned (.tuple #[.string (bs Z1), .int .i64 (Z2 : Int)]) ∧ Gr W w') := sec (fun W => by rw [hZ1, hZ2]; exact rApply bse T W (by omega) (by omega))
              rw [← hZ1, ← hZ2] at HU5
              clear hT hq4 hZ1 hZ2 HU4
              by_cases he4 : e4 = 0
              case neg =>
                have qb : ((e4 : Int) != 0) = true := by rw [bne_iff_ne]; omega
                have HX : Sec (V = ([], (2 : Int))) := sec (HERR.out 2 (by rw [HU5.out, if_pos he4]) (by decide))
                clear he4
                go_upto_region 38 with (first | (go_at_call 39; (with_reducible refine Calls.mono (H2.out _ HD1.out) ?_); rintro e v2 ⟨rfl, d2, g2⟩; have G2 := only_trans HG1.out g2; have y2 : v2.cell? ⟨g, 1, none⟩ = some (.int .i64 ((0 : Nat) : Int)) := d2.blk.cell 1; obtain ⟨b1, off, b2, off2, hAA, hBB, z1, z2⟩ := HCl.out _ (HPP.out.rows.only G2); subst hAA; subst hBB))
                go_quiet (fail)
                go_wp2_with (first | (go_at_call 40; (with_reducible refine Calls.mono (H4.out _ (d2.gr ((Gr.refl _).drewN _))) ?_); rintro e v4 ⟨rfl, d4, g4⟩; have G4 := only_trans (only_trans G2 (only_gr ((Gr.refl _).drewN _) (some g))) g4; have y4 : v4.cell? ⟨g, 1, none⟩ = some (.int .i64 (e4 : Int)) := d4.blk.cell 1) | (go_at_call 51; (with_reducible refine Calls.mono (HA.out _) ?_); rintro e v5 ⟨rfl, g5⟩; have d5 := d4.gr g5; have G5 := only_trans G4 (only_gr g5 (some g))))
                go_ret2
                rw [HX.out]
                exact ListPost.no _ (HG1W.out _ G4)
              subst he4
              by_cases h8 : 8 ≤ dp
              · have q8 : (dp : Int) = 8 := by omega
                have HX : Sec (V = ([], (10 : Int))) := sec (HERR.out 10 (by rw [HU5.out, if_neg (by simp), if_pos h8]) (by decide))
                clear h8 hde
                go_upto_region 38 with (first | (go_at_call 39; (with_reducible refine Calls.mono (H2.out _ HD1.out) ?_); rintro e v2 ⟨rfl, d2, g2⟩; have G2 := only_trans HG1.out g2; have y2 : v2.cell? ⟨g, 1, none⟩ = some (.int .i64 ((0 : Nat) : Int)) := d2.blk.cell 1; obtain ⟨b1, off, b2, off2, hAA, hBB, z1, z2⟩ := HCl.out _ (HPP.out.rows.only G2); subst hAA; subst hBB))
                go_quiet (fail)
                go_wp2_with (first | (go_at_call 40; (with_reducible refine Calls.mono (H4.out _ (d2.gr ((Gr.refl _).drewN _))) ?_); rintro e v4 ⟨rfl, d4, g4⟩; have G4 := only_trans (only_trans G2 (only_gr ((Gr.refl _).drewN _) (some g))) g4; have y4 : v4.cell? ⟨g, 1, none⟩ = some (.int .i64 ((0 : Nat) : Int)) := d4.blk.cell 1) | (go_at_call 51; (with_reducible refine Calls.mono (HA.out _) ?_); rintro e v5 ⟨rfl, g5⟩; have d5 := d4.gr g5; have G5 := only_trans G4 (only_gr g5 (some g))))
                go_ret2
                rw [HX.out]
                exact ListPost.no _ (HG1W.out _ G4)
              have q8 : ((dp : Int) == 8) = false := by rw [beq_eq_false_iff_ne]; omega
              have HU6 : Sec (U = ((Z1, dp + 1, Z2), (s4, 0))) := sec (by rw [HU5.out, if_neg (by simp), if_neg h8])
              clear h8
              by_cases hZ : Z2 = 0
              · subst hZ
                have HX := HU6
                go_upto_region 38 with (first | (go_at_call 39; (with_reducible refine Calls.mono (H2.out _ HD1.out) ?_); rintro e v2 ⟨rfl, d2, g2⟩; have G2 := only_trans HG1.out g2; have y2 : v2.cell? ⟨g, 1, none⟩ = some (.int .i64 ((0 : Nat) : Int)) := d2.blk.cell 1; obtain ⟨b1, off, b2, off2, hAA, hBB, z1, z2⟩ := HCl.out _ (HPP.out.rows.only G2); subst hAA; subst hBB))
                go_quiet (fail)
                go_wp2_with (first | (go_at_call 40; (with_reducible refine Calls.mono (H4.out _ (d2.gr ((Gr.refl _).drewN _))) ?_); rintro e v4 ⟨rfl, d4, g4⟩; have G4 := only_trans (only_trans G2 (only_gr ((Gr.refl _).drewN _) (some g))) g4; have y4 : v4.cell? ⟨g, 1, none⟩ = some (.int .i64 ((0 : Nat) : Int)) := d4.blk.cell 1) | (go_at_call 51; (with_reducible refine Calls.mono (HA.out _) ?_); rintro e v5 ⟨rfl, g5⟩; have d5 := d4.gr g5; have G5 := only_trans G4 (only_gr g5 (some g))))
                go_meet
                exact ⟨by have h := HX.out; subst h; rfl, by have h := HX.out; subst h; rfl, sec ⟨by rw [HX.out], by rw [HX.out]; exact d5, G5⟩⟩
              · have qz : ((Z2 : Int) != 0) = true := by rw [bne_iff_ne]; omega
                have HX : Sec (V = ([], (Z2 : Int))) := sec (HERR.out Z2 (by rw [HU6.out]) hZ)
                clear hZ
                go_upto_region 38 with (first | (go_at_call 39; (with_reducible refine Calls.mono (H2.out _ HD1.out) ?_); rintro e v2 ⟨rfl, d2, g2⟩; have G2 := only_trans HG1.out g2; have y2 : v2.cell? ⟨g, 1, none⟩ = some (.int .i64 ((0 : Nat) : Int)) := d2.blk.cell 1; obtain ⟨b1, off, b2, off2, hAA, hBB, z1, z2⟩ := HCl.out _ (HPP.out.rows.only G2); subst hAA; subst hBB))
                go_quiet (fail)
                go_wp2_with (first | (go_at_call 40; (with_reducible refine Calls.mono (H4.out _ (d2.gr ((Gr.refl _).drewN _))) ?_); rintro e v4 ⟨rfl, d4, g4⟩; have G4 := only_trans (only_trans G2 (only_gr ((Gr.refl _).drewN _) (some g))) g4; have y4 : v4.cell? ⟨g, 1, none⟩ = some (.int .i64 ((0 : Nat) : Int)) := d4.blk.cell 1) | (go_at_call 51; (with_reducible refine Calls.mono (HA.out _) ?_); rintro e v5 ⟨rfl, g5⟩; have d5 := d4.gr g5; have G5 := only_trans G4 (only_gr g5 (some g))))
                go_ret2
                rw [HX.out]
                exact ListPost.no _ (HG1W.out _ G5)
            have q1 : ((how : Int) == 1) = false := by rw [beq_eq_false_iff_ne]; omega
            obtain ⟨id, hid⟩ : ∃ x, x = nxtB 32 (s2, 0) := ⟨_, rfl⟩
            obtain ⟨⟨s3, e3⟩, hq2⟩ : ∃ x, x = aftB 32 (s2, 0) := ⟨_, rfl⟩
            have hs3 : s3.length ≤ 1099511627775 := by have := aftB_leO 32 (s2, 0); rw [← hq2] at this; simp only at this; omega
            have HU3 : Sec (U = if e3 ≠ 0 then (([], 0, 2), (s3, e3)) else (match outF out id with | none => (([], 0, 11), (s3, e3)) | some x => pkT (s3, e3) x 0)) := sec (by rw [HU2.out, if_neg h0, if_neg h1]; unfold pkO; rw [← hid, ← hq2]; try rfl)
            have H2 : Sec (∀ W, RdAt 62 W g (s2, 0) → Calls Tryd.prog 41 #[.pointer (some ⟨g, 0, none⟩), .int .i64 32] W fun e w' => e = .returned (.string (bs id)) ∧ RdAt 62 w' g (s3, e3) ∧ W.grownBy w' (some g)) := sec (fun W h => by rw [hid, hq2]; exact ruTake g (s2, 0) 32 W h (by omega))
            clear hid hq2 HU2 h0 h1 hh2
            by_cases he3 : e3 = 0
            case neg =>
              have qb : ((e3 : Int) != 0) = true := by rw [bne_iff_ne]; omega
              have HX : Sec (V = ([], (2 : Int))) := sec (HERR.out 2 (by rw [HU3.out, if_pos he3]) (by decide))
              clear he3
              go_wp2_with (first | (go_at_call 41; (with_reducible refine Calls.mono (H2.out _ HD1.out) ?_); rintro e v2 ⟨rfl, d2, g2⟩; have G2 := only_trans HG1.out g2; have y2 : v2.cell? ⟨g, 1, none⟩ = some (.int .i64 (e3 : Int)) := d2.blk.cell 1))
              go_ret2
              rw [HX.out]
              exact ListPost.no _ (HG1W.out _ G2)
            subst he3
            go_wp2_with (first | (go_at_call 41; (with_reducible refine Calls.mono (H2.out _ HD1.out) ?_); rintro e v2 ⟨rfl, d2, g2⟩; have G2 := only_trans HG1.out g2; have y2 : v2.cell? ⟨g, 1, none⟩ = some (.int .i64 ((0 : Nat) : Int)) := d2.blk.cell 1))
            have HD2 := sec d2
            have HG2 := sec G2
            have HIR : Sec (StrRow v2 C i (out.map sha)) := sec (HPP.out.idr.onlyR G2 (fun b off e h => (HPP.out.idb b off e).2 (by injection h with h; exact h.symm)))
            have HXR : Sec (StrRow v2 A i out) := sec (HX0.out.gr (HG1W.out _ G2))
            clear d2 g2 G2 y2
            go_loopg [130, 18, 21, 22] i (fun fuel iv bv tv _ wq => ∃ (p : Nat) (bse : List UInt8) (th : Bool), iv = .int .i64 (p : Int) ∧ bv = .string (bs bse) ∧ tv = .bool th ∧ i ≤ p + fuel ∧ p ≤ i ∧ Sec (outF (out.take p) id = if th = true then some bse else none) ∧ wq = v2)
            case atStart => exact ⟨0, [], false, rfl, rfl, rfl, by omega, by omega, sec rfl, rfl⟩
            case round =>
              obtain ⟨p, bse, th, rfl, rfl, rfl, hpk, hpi, HF, rfl⟩ := hrel
              by_cases hpl : p < i
              · have hpp : (p : Int) < (i : Int) := by omega
                have hpo : p < out.length := by rw [← HN.out]; exact hpl
                have hpo' : p < (out.map sha).length := by rw [List.length_map]; exact hpo
                obtain ⟨bx, ox, rfl, x0⟩ := HXR.out.cell hpo
                obtain ⟨by', oy, hCC, y0⟩ := HIR.out.cell hpo'
                subst hCC
                rw [List.getElem_map] at y0
                have HAT := sec (outF_at out p hpo id)
                obtain ⟨x, hx⟩ : ∃ x, x = out[p] := ⟨_, rfl⟩
                rw [← hx] at x0 y0 HAT
                obtain ⟨X, hX⟩ : ∃ X, X = sha x := ⟨_, rfl⟩
                rw [← hX] at y0 HAT
                have HPL := sec hpl
                clear hpl hpo hpo' hx hX
                by_cases hXi : X = id
                · have qX : (X == id) = true := by simpa using hXi
                  have HF2 : Sec (outF (out.take (p + 1)) id = if true = true then some x else none) := sec (by rw [HAT.out, if_pos hXi]; rfl)
                  clear hXi
                  go_wp2_with fail
                  go_roundg (gk - 1)
                  case rel => exact ⟨p + 1, x, true, by go_num, rfl, rfl, by omega, HPL.out, HF2, rfl⟩
                  case measure => have := HPL.out; omega
                · have qX : (X == id) = false := by simpa using hXi
                  have HF2 : Sec (outF (out.take (p + 1)) id = if th = true then some bse else none) := sec (by rw [HAT.out, if_neg hXi]; exact HF.out)
                  clear hXi
                  go_wp2_with fail
                  go_roundg (gk - 1)
                  case rel => exact ⟨p + 1, bse, th, by go_num, rfl, rfl, by omega, HPL.out, HF2, rfl⟩
                  case measure => have := HPL.out; omega
              · obtain rfl : p = i := by omega
                have HF2 : Sec (outF out id = if th = true then some bse else none) := sec (by have := HF.out; rwa [List.take_of_length_le (by rw [← HN.out]; exact Nat.le_refl _)] at this)
                clear hpl HF HXR HIR
                cases th with
                | false =>
                  have HX : Sec (V = ([], (11 : Int))) := sec (HERR.out 11 (by rw [HU3.out, if_neg (by simp), HF2.out]; rfl) (by decide))
                  clear HU3 HF2
                  go_wp2_with fail
                  go_ret2
                  rw [HX.out]
                  exact ListPost.no _ (HG1W.out _ HG2.out)
                | true =>
                  have hfo : outF out id = some bse := by rw [HF2.out, if_pos rfl]
                  have hbl := HOZ.out _ (outF_mem out hfo)
                  have HU4 : Sec (U = pkT (s3, 0) bse 0) := sec (by rw [HU3.out, if_neg (by simp), hfo])
                  clear hfo HF2 HU3
                  obtain ⟨T, hT⟩ : ∃ x, x = nxtT (s3, 0) := ⟨_, rfl⟩
                  obtain ⟨⟨s4, e4⟩, hq4⟩ : ∃ x, x = aftT (s3, 0) := ⟨_, rfl⟩
                  have hTl : T.length ≤ 1099511627775 := by have := nxtT_leO (s3, 0); rw [← hT] at this; simp only at this; omega
                  have HU5 : Sec (U = if e4 ≠ 0 then (([], 0, 2), (s4, e4)) else if 8 ≤ 0 then (([], 0, 10), (s4, e4)) else (((applyR bse T).1, 0 + 1, (applyR bse T).2), (s4, e4))) := sec (by rw [HU4.out]; unfold pkT; rw [← hT, ← hq4])
                  have H4 : Sec (∀ W, RdAt 62 W g (s3, 0) → Calls Tryd.prog 40 #[.pointer (some ⟨g, 0, none⟩)] W fun e w' => e = .returned (.string (bs T)) ∧ RdAt 62 w' g (s4, e4) ∧ W.grownBy w' (some g)) := sec (fun W h => by rw [hT, hq4]; exact ruText g (s3, 0) W h)
                  obtain ⟨Z1, hZ1⟩ : ∃ Z, Z = (applyR bse T).1 := ⟨_, rfl⟩
                  obtain ⟨Z2, hZ2⟩ : ∃ Z, Z = (applyR bse T).2 := ⟨_, rfl⟩
                  have HA : Sec (∀ W, Calls Tryd.prog 51 #[.string (bs bse), .string (bs T)] W fun e w' => e = .returned (.tuple #[.string (bs Z1), .int .i64 (Z2 : Int)]) ∧ Gr W w') := sec (fun W => by rw [hZ1, hZ2]; exact rApply bse T W (by omega) (by omega))
                  rw [← hZ1, ← hZ2] at HU5
                  clear hT hq4 hZ1 hZ2 HU4
                  by_cases he4 : e4 = 0
                  case neg =>
                    have qb : ((e4 : Int) != 0) = true := by rw [bne_iff_ne]; omega
                    have HX : Sec (V = ([], (2 : Int))) := sec (HERR.out 2 (by rw [HU5.out, if_pos he4]) (by decide))
                    clear he4
                    go_wp2_with (first | (go_at_call 40; (with_reducible refine Calls.mono (H4.out _ HD2.out) ?_); rintro e v4 ⟨rfl, d4, g4⟩; have G4 := only_trans HG2.out g4; have y4 : v4.cell? ⟨g, 1, none⟩ = some (.int .i64 (e4 : Int)) := d4.blk.cell 1) | (go_at_call 51; (with_reducible refine Calls.mono (HA.out _) ?_); rintro e v5 ⟨rfl, g5⟩; have d5 := d4.gr g5; have G5 := only_trans G4 (only_gr g5 (some g))))
                    go_ret2
                    rw [HX.out]
                    exact ListPost.no _ (HG1W.out _ G4)
                  subst he4
                  have HU6 : Sec (U = ((Z1, 0 + 1, Z2), (s4, 0))) := sec (by rw [HU5.out, if_neg (by simp), if_neg (by omega)])
                  by_cases hZ : Z2 = 0
                  · subst hZ
                    have HX := HU6
                    go_wp2_with (first | (go_at_call 40; (with_reducible refine Calls.mono (H4.out _ HD2.out) ?_); rintro e v4 ⟨rfl, d4, g4⟩; have G4 := only_trans HG2.out g4; have y4 : v4.cell? ⟨g, 1, none⟩ = some (.int .i64 ((0 : Nat) : Int)) := d4.blk.cell 1) | (go_at_call 51; (with_reducible refine Calls.mono (HA.out _) ?_); rintro e v5 ⟨rfl, g5⟩; have d5 := d4.gr g5; have G5 := only_trans G4 (only_gr g5 (some g))))
                    go_meet
                    exact ⟨by have h := HX.out; subst h; rfl, by have h := HX.out; subst h; rfl, sec ⟨by rw [HX.out], by rw [HX.out]; exact d5, G5⟩⟩
                  · have qz : ((Z2 : Int) != 0) = true := by rw [bne_iff_ne]; omega
                    have HX : Sec (V = ([], (Z2 : Int))) := sec (HERR.out Z2 (by rw [HU6.out]) hZ)
                    clear hZ
                    go_wp2_with (first | (go_at_call 40; (with_reducible refine Calls.mono (H4.out _ HD2.out) ?_); rintro e v4 ⟨rfl, d4, g4⟩; have G4 := only_trans HG2.out g4; have y4 : v4.cell? ⟨g, 1, none⟩ = some (.int .i64 ((0 : Nat) : Int)) := d4.blk.cell 1) | (go_at_call 51; (with_reducible refine Calls.mono (HA.out _) ?_); rintro e v5 ⟨rfl, g5⟩; have d5 := d4.gr g5; have G5 := only_trans G4 (only_gr g5 (some g))))
                    go_ret2
                    rw [HX.out]
                    exact ListPost.no _ (HG1W.out _ G5)
          case rest =>
            obtain ⟨rfl, rfl, HC⟩ := hcut
            obtain ⟨⟨x, d, er⟩, q2⟩ := U
            simp only at HVi HOK HC HERR
            obtain ⟨her, d1, g1⟩ := HC.out
            rw [her, if_neg (by simp)] at HVi
            have HDec : Sec (∀ W, Calls Tryd.prog 9 #[.string (bs x)] W (DecPost W (obD x))) := sec (fun W => robDec_any x W (by have := HOK.out.len; simp only at this; omega))
            have hdp : d ≤ 8 := HOK.out.deep
            have hq2l : q2.1.length ≤ 1099511627775 := HOK.out.left
            have HOL := sec (fun (h : (obD x).2 = 0) => HPP.out.sz.add (s := x) (d := d) h hdp)
            have HD1 := sec d1
            have HG1 := sec g1
            obtain ⟨⟨⟨kd, dt, en, tr, pa, wh, no, ti, ta⟩, E⟩, hE⟩ : ∃ r, r = obD x := ⟨_, rfl⟩
            rw [← hE] at HVi HDec HOL
            unfold DecPost obA at HDec
            simp only at HVi HDec HOL
            clear hE d1 g1 her HC HERR HU2
            by_cases hE0 : E = 0
            case neg =>
              have qe : (E != 0) = true := by rw [bne_iff_ne]; exact hE0
              have HX : Sec (V = ([], E)) := sec (by rw [HVi.out, if_pos hE0])
              clear hE0
              go_upto_region 62 with (first
                | (go_at_call 9; (with_reducible refine Calls.mono (HDec.out _) ?_); rintro e w2 ⟨A1, c1, B1, d1', rfl, r2, g2⟩)
                | (refine wpList_store_blk rfl 25 (.tmp 25) (.tmp 169) rfl (g := w2.heap.size) (cs' := obA ⟨kd, dt, en, tr, pa, wh, no, ti, ta⟩ A1 c1 B1 d1') rfl rfl (Blk.new w2 _ _) aggOb rfl (obA_one _ _ _ _ _) ?_; intro w3 h3 hg3))
              have z23 : Gr w2 w3 := Gr.only ((Gr.refl w2).alloc _) hg3 (Nat.le_refl _)
              go_wp2_with fail
              go_ret2
              rw [HX.out]
              exact ListPost.no _ (((HG1W.out _ HG1.out).trans g2).trans z23)
            subst hE0
            have HVj : Sec (V = if x ∈ L.map (·.1) then ([], 8) else pkGo (outF out) (many - (j + 1)) (L ++ [(x, d)]) q2) := sec (by rw [HVi.out, if_neg (by simp)])
            clear HVi
            go_upto_region 62 with (first
              | (go_at_call 9; (with_reducible refine Calls.mono (HDec.out _) ?_); rintro e w2 ⟨A1, c1, B1, d1', rfl, r2, g2⟩)
              | (refine wpList_store_blk rfl 25 (.tmp 25) (.tmp 169) rfl (g := w2.heap.size) (cs' := obA ⟨kd, dt, en, tr, pa, wh, no, ti, ta⟩ A1 c1 B1 d1') rfl rfl (Blk.new w2 _ _) aggOb rfl (obA_one _ _ _ _ _) ?_; intro w3 h3 hg3))
            have z23 : Gr w2 w3 := Gr.only ((Gr.refl w2).alloc _) hg3 (Nat.le_refl _)
            have z13 := sec (g2.trans z23)
            have HR3 := sec ((HPP.out.rows.only HG1.out).txt.gr z13.out)
            clear h3 hg3 r2 g2 z23 HDec
            go_wp2_with fail
            go_loopg [176, 28] j (fun fuel iv _ wq => ∃ p : Nat, iv = .int .i64 (p : Int) ∧ j ≤ p + fuel ∧ p ≤ j ∧ Sec (x ∉ (L.map (·.1)).take p) ∧ wq = w3)
            case atStart => exact ⟨0, rfl, by omega, by omega, sec (by simp), rfl⟩
            case round =>
              obtain ⟨p, rfl, hpk, hpi, HF, rfl⟩ := hrel
              have hln := HR3.out.len
              by_cases hpl : p < j
              · have hpp : (p : Int) < (j : Int) := by omega
                have hpo : p < (L.map (·.1)).length := by omega
                obtain ⟨bx, ox, rfl, x0⟩ := HR3.out.cell hpo
                have HM : Sec (∀ z, z ∈ (L.map (·.1)).take (p + 1) ↔ z ∈ (L.map (·.1)).take p ∨ z = (L.map (·.1))[p]) := sec (fun z => by
                  rw [List.take_succ_eq_append_getElem hpo]; simp only [List.mem_append, List.mem_singleton])
                have HIN : Sec ((L.map (·.1))[p] ∈ L.map (·.1)) := sec (List.getElem_mem hpo)
                obtain ⟨z, hz⟩ : ∃ z, z = (L.map (·.1))[p] := ⟨_, rfl⟩
                rw [← hz] at x0 HM HIN
                have HPL := sec hpl
                clear hpl hpo hz hln
                by_cases hzx : z = x
                · have qX : (z == x) = true := by simpa using hzx
                  have HX : Sec (V = ([], 8)) := sec (by rw [HVj.out, if_pos (by rw [← hzx]; exact HIN.out)])
                  clear hzx
                  go_wp2_with fail
                  go_ret2
                  rw [HX.out]
                  exact ListPost.no _ ((HG1W.out _ HG1.out).trans z13.out)
                · have qX : (z == x) = false := by simpa using hzx
                  have HF2 : Sec (x ∉ (L.map (·.1)).take (p + 1)) := sec (fun h => by
                    rcases (HM.out x).1 h with h | h
                    · exact HF.out h
                    · exact hzx h.symm)
                  clear hzx
                  go_wp2_with fail
                  go_roundg (gk - 1)
                  case rel => exact ⟨p + 1, by go_num, by omega, HPL.out, HF2, rfl⟩
                  case measure => have := HPL.out; omega
              · obtain rfl : p = j := by omega
                have hnin : x ∉ L.map (·.1) := by have := HF.out; rwa [List.take_of_length_le (by omega)] at this
                have HX : Sec (V = pkGo (outF out) (many - (p + 1)) (L ++ [(x, d)]) q2) := sec (by rw [HVj.out, if_neg hnin])
                clear hpl hnin HVj HF hln HR3
                have hb1 : (p + 1) * 16 ≤ 140737488355328 := by omega
                have hb2 : (p + 1) * 8 ≤ 140737488355328 := by omega
                have hb3 : p + 1 ≤ maxLen := by unfold maxLen; omega
                have o1 := own_gr (own_only HPP.out.own1 HPP.out.rd.blk (by decide) HG1.out) z13.out
                have o2 := own_gr (own_only HPP.out.own2 HPP.out.rd.blk (by decide) HG1.out) z13.out
                have d4 := HD1.out.gr z13.out
                have I4 := (HPP.out.idr.onlyR HG1.out (fun b off e h => (HPP.out.idb b off e).2 (by injection h with h; exact h.symm))).gr z13.out
                have G4 := (HG1W.out _ HG1.out).trans z13.out
                have S4 := Nat.le_trans HPP.out.size (Nat.le_trans HG1.out.size z13.out.size)
                go_wp2_with (first
                  | (at_builtin; refine wpList_append_oneB E.str rfl (.tmp 184) (.tmp 186) rfl rfl o1 rfl rfl hb1 hb3 S4 ?_; intro g5 c5 w5 o5 hg5; have p5 := own_other o2 o1 (by decide) hg5; have S5 : w7.heap.size ≤ w5.heap.size := Nat.le_trans S4 hg5.size)
                  | (at_builtin; refine wpList_append_oneB E.int rfl (.tmp 188) (.tmp 190) rfl rfl p5 rfl rfl hb2 hb3 S5 ?_; intro g9 c9 w9 o9 hg9))
                go_roundg (gO - 1)
                case rel =>
                  refine ⟨p + 1, some ⟨g5, 0, none⟩, some ⟨g9, 0, none⟩, c5, c9, by go_num, rfl, rfl, by omega, HLT.out, sec ⟨L ++ [(x, d)], q2, ?_⟩⟩
                  have n5 := own_neP o1 HPP.out.gW
                  have n9 := own_neP p5 HPP.out.gW
                  refine ⟨by simp [HPP.out.len], ?_, ?_, (d4.other hg5 n5).other hg9 n9, (Row.onlyR I4 hg5 (fun b off e h => own_neP o1 (HPP.out.idb b off e).1 h.symm)).onlyR hg9 (fun b off e h => own_neP p5 (HPP.out.idb b off e).1 h.symm), HPP.out.idb, HOL.out trivial, hq2l, HX.out, (G4.grown hg5 (fun k hk => Nat.le_trans hwr0 (o1.lt k hk).1)).grown hg9 (fun k hk => Nat.le_trans hwr0 (p5.lt k hk).1), Nat.le_trans S5 hg9.size, HPP.out.gW⟩
                  · have := own_other o5 p5 (by decide) hg9
                    simpa [strV] using this
                  · simpa [intV] using o9
                case measure => have := HLT.out; omega
        · obtain rfl : j = many := by omega
          have HVi : Sec (V = if q.1.length = 0 then (L.map (·.1), 0) else ([], 2)) := sec (by rw [Pt.val, Nat.sub_self]; rfl)
          have y0 : wr.cell? ⟨g, 0, none⟩ = some (.string (bs q.1)) := Pt.rd.blk.cell 0
          have HPP := sec Pt
          clear hlt Pt HP
          by_cases hl0 : q.1.length = 0
          · have HX : Sec (V = (L.map (·.1), 0)) := sec (by rw [HVi.out, if_pos hl0])
            have ql : q.1.isEmpty = true := by rw [List.isEmpty_iff]; exact List.eq_nil_of_length_eq_zero hl0
            have ql2 : (q.1 == []) = true := by rw [List.eq_nil_of_length_eq_zero hl0]; rfl
            clear hl0
            go_wp2_with fail
            go_ret2
            rw [HX.out]
            exact ⟨A0, j, c0, by rw [List.length_map, HPP.out.len], rfl, HPP.out.rows.txt, own_nilP HPP.out.own1, own_capP HPP.out.own1, HPP.out.gr⟩
          · have HX : Sec (V = ([], 2)) := sec (by rw [HVi.out, if_neg hl0])
            have hne : q.1 ≠ [] := fun e => hl0 (by rw [e]; rfl)
            have ql : q.1.isEmpty = false := by rw [Bool.eq_false_iff]; intro h; exact hne (List.isEmpty_iff.1 h)
            have ql2 : (q.1 == []) = false := by simpa using hne
            clear hl0 hne
            go_wp2_with fail
            go_ret2
            rw [HX.out]
            exact ListPost.no _ HPP.out.gr
end Go.Proofs.YtmgpllakpgjicaaDoor

namespace Go.Proofs.YtmgpllakpgjicaaDoor
open Go.RowKit
set_option maxRecDepth 100000 in
set_option maxHeartbeats 1000000 in
theorem sameStrings_any (A A' : Option Addr) (n n' c c' : Nat) (xs ys : List (List UInt8)) (w : World) (hx : StrRow w A n xs) (hy : StrRow w A' n' ys) (hn : n ≤ 140737488355328) (hn' : n' ≤ 140737488355328) :
    Calls Tryd.prog 18 #[.slice A n c, .slice A' n' c'] w fun e w' => e = .returned (.bool (decide (xs = ys))) ∧ Gr w w' := by
  have hlx := hx.len
  have hly := hy.len
  subst hlx hly
  by_cases hne : xs.length = ys.length
  · have hb1 : ((xs.length : Int) != (ys.length : Int)) = false := by simp [hne]
    have HN := sec hne
    clear hne
    go_enter Tryd.func18, Tryd.ntmps18
    go_wp2_with fail
    go_loopw [5, 13] (fun _ iv wr => ∃ i : Nat, iv = .int .i64 i ∧ i ≤ xs.length ∧ Sec (xs.take i = ys.take i) ∧ Gr w wr)
      (fun _ iv _ => xs.length - (intOf iv).toNat)
    case atStart => exact ⟨0, rfl, by omega, ⟨by simp⟩, Gr.refl _⟩
    case round =>
      obtain ⟨i, rfl, hi, he, hg⟩ := hrel
      by_cases hlt : i < xs.length
      · have hlty : i < ys.length := by have := HN.out; omega
        obtain ⟨b, off, rfl, hc⟩ := (hx.gr hg).cell hlt
        obtain ⟨b', off', rfl, hc'⟩ := (hy.gr hg).cell hlty
        obtain ⟨x, hxe⟩ : ∃ x, x = xs[i] := ⟨_, rfl⟩
        obtain ⟨y, hye⟩ : ∃ y, y = ys[i] := ⟨_, rfl⟩
        rw [← hxe] at hc
        rw [← hye] at hc'
        have HX := sec hxe
        have HY := sec hye
        clear hxe hye
        have q1 : (i : Int) < (xs.length : Int) := by omega
        have q2 : (i : Int) < (ys.length : Int) := by omega
        by_cases hxy : x = y
        · subst hxy
          go_wp2
          go_quiet (fail)
          go_wp2
          go_roundw
          case rel =>
            refine ⟨i + 1, by go_num, by omega, ⟨?_⟩, hg.drewN _⟩
            rw [List.take_succ_eq_append_getElem hlt, List.take_succ_eq_append_getElem hlty, he.out, ← HX.out, ← HY.out]
          case measure => simp [intOf]; omega
        · have hxy' : (x == y) = false := by simpa using hxy
          have HXY := sec hxy
          clear hxy
          go_wp2
          go_quiet (fail)
          go_wp2
          go_ret
          refine ⟨?_, hg.drewN _⟩
          have : ¬ (xs = ys) := by
            intro e
            apply HXY.out
            rw [HX.out, HY.out]
            simp [e]
          simp [this]
      · go_wp2
        go_ret
        refine ⟨?_, hg⟩
        have : xs = ys := by
          have h1 := he.out
          rw [List.take_of_length_le (by omega), List.take_of_length_le (by have := HN.out; omega)] at h1
          exact h1
        simp [this]
  · have hb1 : ((xs.length : Int) != (ys.length : Int)) = true := by rw [bne_iff_ne]; omega
    have : ¬ (xs = ys) := fun e => hne (by rw [e])
    have HN := sec this
    clear this hne
    go_enter Tryd.func18, Tryd.ntmps18
    go_wp2
    go_ret
    exact ⟨by simp [HN.out], Gr.refl _⟩
end Go.Proofs.YtmgpllakpgjicaaDoor

namespace Go.Proofs.YtmgpllakpgjicaaDoor
open Go.RowKit
set_option linter.unusedVariables false
theorem strV_oneCell {ss : List (List UInt8)} : ∀ u ∈ ss.map strV, u.oneCell' = true := by
  intro u hu
  obtain ⟨c, _, rfl⟩ := List.mem_map.1 hu
  rfl
set_option maxRecDepth 100000 in
set_option maxHeartbeats 1000000 in
theorem strings_any (ss : List (List UInt8)) (m : Nat) (A : Option Addr) (cap : Nat) (w : World) (hm : m ≤ 1099511627776) (hrow : StrRow w A m ss) (hA : A = none → m = 0 ∧ cap = 0) :
    Calls Tryd.prog 16 #[.slice A m cap] w fun e w' => ∃ A' cap', e = .returned (.slice A' m cap') ∧ w'.ownsRow w.heap.size 9 1 (.slice A' m cap') m (ss.map strV) ∧ Gr w w' := by
  obtain ⟨i0, hi0, hz0, hz1, hz2⟩ := info_parts E.str.info
  have hlen := hrow.len
  cases A with
  | none =>
    obtain ⟨rfl, rfl⟩ := hA rfl
    obtain rfl : ss = [] := List.eq_nil_of_length_eq_zero hlen
    go_enter Tryd.func16, Tryd.ntmps16
    go_wp2_with (refine wpList_append_own_none rfl (.const (.slice none 0 0)) (.tmp 3) 23 rfl w.heap.size 9 i0 1 E.str.under hi0 _ 0 [] rfl (World.ownsRow_nil _ _ _ _) rfl ?_)
    go_ret
    exact ⟨none, 0, rfl, World.ownsRow_nil _ _ _ _, Gr.refl _⟩
  | some ad =>
    have hnews : ∀ j u, (ss.map strV)[j]? = some u → w.cell? (ad.add j) = some u := by
      intro j u hu
      have hj : j < ss.length := by have := (List.getElem?_eq_some_iff.1 hu).1; simpa using this
      obtain ⟨b, off, e, hc⟩ := Row.at_ hrow (by omega)
      injection e with e
      subst e
      have : (⟨b, off, none⟩ : Addr).add j = ⟨b, off + j, none⟩ := by unfold Addr.add; split <;> simp_all
      rw [this]
      exact hc j u hu
    have HN := sec hnews
    have HL := sec hlen
    clear hnews hrow
    go_enter Tryd.func16, Tryd.ntmps16
    go_wp2_with (refine wpList_append_own _ rfl (.const (.slice none 0 0)) (.tmp 3) 23 rfl w.heap.size 9 i0 (.string (bs [])) 1 16 E.str.under hi0 hz0 hz1 hz2 E.str.zcells (by omega) _ 0 [] rfl (World.ownsRow_nil _ _ _ _) ad m cap (ss.map strV) rfl (by rw [List.length_map, HL.out, Nat.mul_one]) HN.out strV_oneCell (by unfold maxLen; omega) (by omega) (Nat.le_refl _) ?_; intro v' w' hown hgr hnil)
    go_ret
    rw [Nat.zero_add, List.nil_append] at hown
    have hg : Gr w w' := (Gr.refl w).grown hgr (by rintro k hk; cases hk)
    rcases hown.2 with ⟨rfl, h0⟩ | ⟨g, cap', cur, rfl, _⟩
    · subst h0
      exact ⟨none, 0, rfl, hown, hg⟩
    · exact ⟨some ⟨g, 0, none⟩, cap', rfl, hown, hg⟩
end Go.Proofs.YtmgpllakpgjicaaDoor

namespace Go.Proofs.YtmgpllakpgjicaaDoor
set_option maxRecDepth 100000
open Go.RowKit Go.ChangeShapes Go.WideShapes
/-- a value of type t, k cells, reads as some a (R), of size sz a at most its bulk -/
structure Opens (w : World) (t : TypeId) (k : Nat) {α : Type} (R : List Value → α → Prop) (sz : α → Nat) : Prop where
  cells : Tryd.prog.cellsOf t = k
  open_ : ∀ {H : Type} (enc : TypeId × Value → H) (fuel : Nat) (cs : List Value) (x : DataW H × List MemPlace),
    DataW.trod enc Tryd.prog w 0 (fun _ => true) true fuel t cs = some x → cs.length = k ∧ ∃ a, R cs a ∧ sz a ≤ Rows.uptoBulk x.1

def intR (cs : List Value) (n : Int) : Prop := cs = [.int .i64 n] ∧ -9223372036854775808 ≤ n ∧ n ≤ 9223372036854775807
def strR (cs : List Value) (l : List UInt8) : Prop := cs = [.string (bs l)]
def boolR (cs : List Value) (b : Bool) : Prop := cs = [.bool b]
theorem opens_int {t : TypeId} (ht : Tryd.prog.underlying t = some (.int .i64)) (hc : Tryd.prog.cellsOf t = 1) (w : World) : Opens w t 1 intR (fun _ => 1) :=
  ⟨hc, fun enc fuel cs x h => by
    obtain ⟨n, rfl, rfl, hw⟩ := DataW.trod_int ht h
    exact ⟨rfl, n, ⟨rfl, by simpa [Lit.wf, IntKind.min, IntKind.max, IntKind.signed, IntKind.bits] using hw⟩, by simp [Rows.uptoBulk]⟩⟩
theorem opens_string {t : TypeId} (ht : Tryd.prog.underlying t = some .string) (hc : Tryd.prog.cellsOf t = 1) (w : World) : Opens w t 1 strR (fun l => l.length + 1) :=
  ⟨hc, fun enc fuel cs x h => by
    obtain ⟨s, rfl, rfl, _⟩ := DataW.trod_string ht h
    obtain ⟨l, rfl⟩ := bs_of s
    exact ⟨rfl, l, rfl, by simp [Rows.uptoBulk, bs_data]⟩⟩
theorem opens_bool {t : TypeId} (ht : Tryd.prog.underlying t = some .bool) (hc : Tryd.prog.cellsOf t = 1) (w : World) : Opens w t 1 boolR (fun _ => 1) :=
  ⟨hc, fun enc fuel cs x h => by
    obtain ⟨b, rfl, rfl⟩ := DataW.trod_bool ht h
    exact ⟨rfl, b, rfl, by simp [Rows.uptoBulk]⟩⟩

/-- the reading by other words -/
theorem Opens.map {w : World} {t : TypeId} {k : Nat} {α β : Type} {R : List Value → α → Prop} {sz : α → Nat} (h : Opens w t k R sz) {R' : List Value → β → Prop} {sz' : β → Nat} (f : α → β) (hR : ∀ cs a, R cs a → R' cs (f a)) (hs : ∀ a, sz' (f a) ≤ sz a) : Opens w t k R' sz' :=
  ⟨h.cells, fun enc fuel cs x hx => by
    obtain ⟨hl, a, ha, hb⟩ := h.open_ enc fuel cs x hx
    exact ⟨hl, f a, hR _ _ ha, Nat.le_trans (hs a) hb⟩⟩

/-! ### structs -/
structure OpensF (w : World) (fl : List Field) (off k : Nat) {β : Type} (R : List Value → β → Prop) (sz : β → Nat) : Prop where
  open_ : ∀ {H : Type} (enc : TypeId × Value → H) (n : Nat) (cs : List Value) (ys : List (DataW H × List MemPlace)), ys.length = fl.length →
    (∀ (i : Nat) (f : Field), fl[i]? = some f → DataW.trod enc Tryd.prog w 0 (fun _ => true) true n f.type ((cs.drop f.offset).take (Tryd.prog.cellsOf f.type)) = ys[i]?) →
    cs.length = off + k → ∃ b, R (cs.drop off) b ∧ sz b ≤ Rows.uptoBulkAll (ys.map (·.1))
def nilR (cs : List Value) (_ : Unit) : Prop := cs = []
def consR {α β : Type} (k : Nat) (R : List Value → α → Prop) (R' : List Value → β → Prop) (cs : List Value) (a : α × β) : Prop := ∃ c1 c2, cs = c1 ++ c2 ∧ c1.length = k ∧ R c1 a.1 ∧ R' c2 a.2
theorem opensF_nil (w : World) (off : Nat) : OpensF w [] off 0 nilR (fun _ => 0) :=
  ⟨fun enc n cs ys _ _ hl => ⟨(), List.drop_eq_nil_of_le (by omega), by simp⟩⟩
theorem opensF_cons {w : World} {f : Field} {fl : List Field} {off k k' : Nat} {α β : Type} {R : List Value → α → Prop} {sz : α → Nat} {R' : List Value → β → Prop} {sz' : β → Nat}
    (hf : f.offset = off) (h : Opens w f.type k R sz) (h' : OpensF w fl (off + k) k' R' sz') : OpensF w (f :: fl) off (k + k') (consR k R R') (fun a => sz a.1 + sz' a.2) :=
  ⟨fun enc n cs ys hy hat hl => by
    cases ys with
    | nil => simp at hy
    | cons y ys =>
      have h0 := hat 0 f rfl
      rw [hf, h.cells] at h0
      obtain ⟨hk, a, ha, hb⟩ := h.open_ enc n _ y h0
      obtain ⟨b, hb1, hb2⟩ := h'.open_ enc n cs ys (by simpa using hy) (fun i g hg => hat (i + 1) g (by simpa using hg)) (by omega)
      refine ⟨(a, b), ⟨(cs.drop off).take k, cs.drop (off + k), ?_, hk, ha, hb1⟩, ?_⟩
      · rw [← List.drop_drop]; exact (List.take_append_drop k _).symm
      · simp only [List.map_cons, Rows.uptoBulkAll]; omega⟩
theorem opens_struct {w : World} {t : TypeId} {fs : Array Field} {k : Nat} {β : Type} {R : List Value → β → Prop} {sz : β → Nat} (ht : Tryd.prog.underlying t = some (.struct fs)) (hc : Tryd.prog.cellsOf t = k) (h : OpensF w fs.toList 0 k R sz) : Opens w t k R (fun b => sz b + 1) :=
  ⟨hc, fun enc fuel cs x hx => by
    obtain ⟨xs, n, _, rfl, hl, hxl, hf⟩ := DataW.trod_struct ht hx
    obtain ⟨b, hb, hs⟩ := h.open_ enc n cs xs (by simpa using hxl) (fun i f hi => hf i f (by simpa using hi)) (by rw [hl, hc]; omega)
    exact ⟨hl.trans hc, b, by simpa using hb, by simp only [Rows.uptoBulk]; omega⟩⟩

/-! ### slices -/
def sliceR {α : Type} (w : World) (k : Nat) (R : List Value → α → Prop) (cs : List Value) (xs : List α) : Prop :=
  ∃ A c, cs = [.slice A xs.length c] ∧ xs.length ≤ c ∧ (c ≤ maxLen ∧ (A = none → c = 0)) ∧ (0 < xs.length → ∃ b off, A = some ⟨b, off, none⟩ ∧ ∀ i (h : i < xs.length), ∃ ci, R ci xs[i] ∧ ci.length = k ∧ ∀ j v, ci[j]? = some v → w.cell? ⟨b, off + i * k + j, none⟩ = some v)
def szs {α : Type} (sz : α → Nat) : List α → Nat
  | [] => 0
  | x :: r => sz x + szs sz r

theorem build_list {α : Type} (p : Nat → α → Prop) : ∀ n, (∀ i, i < n → ∃ a, p i a) → ∃ xs : List α, xs.length = n ∧ ∀ i (h : i < xs.length), p i xs[i]
  | 0, _ => ⟨[], rfl, fun i h => absurd h (by simp)⟩
  | n + 1, h => by
    obtain ⟨xs, hl, hx⟩ := build_list p n (fun i hi => h i (by omega))
    obtain ⟨a, ha⟩ := h n (by omega)
    refine ⟨xs ++ [a], by simp [hl], fun i hi => ?_⟩
    by_cases e : i < xs.length
    · rw [List.getElem_append_left e]; exact hx i e
    · have : i = n := by simp at hi; omega
      subst this
      rw [List.getElem_append_right (by omega)]
      simpa [hl] using ha
theorem szs_le {H α : Type} (sz : α → Nat) : ∀ (xs : List α) (ds : List (DataW H)), xs.length = ds.length → (∀ i (h : i < xs.length) (h' : i < ds.length), sz xs[i] ≤ Rows.uptoBulk ds[i]) → szs sz xs ≤ Rows.uptoBulkAll ds
  | [], [], _, _ => by simp [szs]
  | x :: xs, d :: ds, hl, h => by
    have h0 := h 0 (by simp) (by simp)
    have := szs_le sz xs ds (by simpa using hl) (fun i hi hi' => h (i + 1) (by simp; omega) (by simp; omega))
    simp only [szs, Rows.uptoBulkAll]
    simp at h0
    omega
  | [], _ :: _, hl, _ => by simp at hl
  | _ :: _, [], hl, _ => by simp at hl

theorem add_of_add (a : Addr) (i j : Nat) : (a.add i).add j = a.add (i + j) := by
  unfold Addr.add
  by_cases hi : i = 0 <;> by_cases hj : j = 0 <;> simp [hi, hj, Nat.add_assoc]
theorem add_spot {b off i : Nat} : (⟨b, off, none⟩ : Addr).add i = ⟨b, off + i, none⟩ := by unfold Addr.add; split <;> simp_all

theorem opens_slice {w : World} {t e : TypeId} {k : Nat} {α : Type} {R : List Value → α → Prop} {sz : α → Nat} (ht : Tryd.prog.underlying t = some (.slice e)) (hc : Tryd.prog.cellsOf t = 1) (h : Opens w e k R sz) (hk : 0 < k) :
    Opens w t 1 (sliceR w k R) (fun xs => szs sz xs + 1) :=
  ⟨hc, fun {H} enc fuel cs x hx => by
    rcases DataW.trod_slice ht hx with ⟨rfl, rfl⟩ | ⟨a, len, cap, elems, rest, n, _, rfl, rfl, _, hlc, hcm, hlen, hel, _, _⟩
    · exact ⟨rfl, [], ⟨none, 0, rfl, by simp, ⟨by simp [maxLen], fun _ => rfl⟩, fun h0 => absurd h0 (by simp)⟩, by simp [szs, Rows.uptoBulk]⟩
    · have hi : ∀ i, i < len → ∃ y : α × List Value, (∀ (h' : i < elems.length), sz y.1 ≤ Rows.uptoBulk (elems[i].1)) ∧ R y.2 y.1 ∧ y.2.length = k ∧ ∀ j v, y.2[j]? = some v → w.cell? (a.add (i * k + j)) = some v := by
        intro i hi
        have h1 := hel i hi
        have hil : i < elems.length := by omega
        rw [List.getElem?_eq_getElem hil, Option.bind_eq_some_iff] at h1
        obtain ⟨ci, hci, hti⟩ := h1
        obtain ⟨hl, y, hy, hs⟩ := h.open_ enc n ci _ hti
        rw [h.cells] at hci
        obtain ⟨_, _, hcell⟩ := World.cells?_some hci
        refine ⟨(y, ci), fun _ => hs, hy, hl, fun j v hv => ?_⟩
        have hj : j < k := by rw [← hl]; exact (List.getElem?_eq_some_iff.1 hv).1
        rw [← add_of_add, hcell j hj]; exact hv
      obtain ⟨ys, hyl, hys⟩ := build_list (fun i (y : α × List Value) => (∀ (h' : i < elems.length), sz y.1 ≤ Rows.uptoBulk (elems[i].1)) ∧ R y.2 y.1 ∧ y.2.length = k ∧ ∀ j v, y.2[j]? = some v → w.cell? (a.add (i * k + j)) = some v) len hi
      refine ⟨rfl, ys.map (·.1), ⟨some a, cap, by simp [hyl], by simp; omega, ⟨hcm, fun h => by cases h⟩, fun h0 => ?_⟩, ?_⟩
      · obtain ⟨b, off, spot⟩ := a
        have h00 := hys 0 (by simpa using h0)
        obtain ⟨_, _, hl0, hc0⟩ := h00
        have hv := hc0 0 _ (List.getElem?_eq_getElem (by rw [hl0]; exact hk))
        have hsp : spot = none := by simpa [Addr.add] using World.cell?_spot hv
        subst hsp
        refine ⟨b, off, rfl, fun i hi => ?_⟩
        have hi' : i < ys.length := by simpa using hi
        obtain ⟨_, hR, hl, hcell⟩ := hys i hi'
        refine ⟨ys[i].2, by simpa using hR, hl, fun j v hv => ?_⟩
        have := hcell j v hv
        rw [add_spot, ← Nat.add_assoc] at this
        exact this
      · simp only [Rows.uptoBulk]
        have := szs_le (H := H) sz (ys.map (·.1)) (elems.map (·.1)) (by simp; omega) (fun i hi hi' => by
          have hi2 : i < ys.length := by simpa using hi
          have := (hys i hi2).1 (by simpa using hi')
          simpa using this)
        omega⟩

/-- where an element's cells are told by it alone: a row -/
theorem sliceR_row {α : Type} {w : World} {k : Nat} {R : List Value → α → Prop} (f : α → List Value) (hf : ∀ x, (f x).length = k) (hk : 0 < k) (hR : ∀ ci x, R ci x → ci = f x) {cs : List Value} {xs : List α} (h : sliceR w k R cs xs) :
    ∃ A c, cs = [.slice A xs.length c] ∧ xs.length ≤ c ∧ c ≤ maxLen ∧ Row w k A xs.length (xs.flatMap f) := by
  obtain ⟨A, c, hcs, h1, h2, hat⟩ := h
  refine ⟨A, c, hcs, h1, h2.1, flat_len f k hf xs, fun hn => ?_⟩
  obtain ⟨b, off, e, hel⟩ := hat hn
  refine ⟨b, off, e, fun j v hv => ?_⟩
  have hjl : j < xs.length * k := by rw [← flat_len f k hf xs]; exact (List.getElem?_eq_some_iff.1 hv).1
  have hi : j / k < xs.length := (Nat.div_lt_iff_lt_mul hk).2 hjl
  have hr : j % k < k := Nat.mod_lt _ hk
  have ej : j / k * k + j % k = j := by rw [Nat.mul_comm]; exact Nat.div_add_mod j k
  obtain ⟨ci, hci, _, hcell⟩ := hel (j / k) hi
  rw [hR ci _ hci] at hcell
  rw [← ej, flat_at f k hf xs (j / k) hi (j % k) hr] at hv
  have := hcell (j % k) v hv
  rw [Nat.add_assoc, ej] at this
  exact this
theorem szs_len {α : Type} (sz : α → Nat) (h1 : ∀ x, 1 ≤ sz x) : ∀ xs : List α, xs.length ≤ szs sz xs
  | [] => by simp
  | x :: r => by have := szs_len sz h1 r; have := h1 x; simp only [szs, List.length_cons]; omega
theorem szs_mem {α : Type} (sz : α → Nat) {xs : List α} {x : α} (h : x ∈ xs) : sz x ≤ szs sz xs := by
  induction xs with
  | nil => cases h
  | cons y r ih =>
    simp only [szs]
    rcases List.mem_cons.1 h with rfl | h
    · omega
    · have := ih h; omega

/-! ### arguments -/
theorem open_arg {w : World} {t : TypeId} {k : Nat} {α : Type} {R : List Value → α → Prop} {sz : α → Nat} (h : Opens w t k R sz) {H : Type} {enc : TypeId × Value → H} {v : Value} {d : DataW H} {p : List MemPlace}
    (hd : DataW.Trod enc Tryd.prog w 0 (fun _ => true) true t v d p) : ∃ a, R v.cells.toList a ∧ sz a ≤ Rows.uptoBulk d ∧ v.cells.toList.length = k := by
  obtain ⟨fuel, hf⟩ := hd
  obtain ⟨hl, a, ha, hs⟩ := h.open_ enc fuel _ _ hf
  exact ⟨a, ha, hs, hl⟩
theorem open_slice_arg {w : World} {r : Reach} {base : Nat} {t e : TypeId} (ht : Tryd.prog.underlying t = some (.slice e)) {k : Nat} {α : Type} {R : List Value → α → Prop} {sz : List α → Nat} (h : Opens w t 1 (sliceR w k R) sz) {H : Type} {enc : TypeId × Value → H} {v : Value} {d : DataW H} {p : List MemPlace}
    (hv : Value.okWide Tryd.prog w r base t v) (hd : DataW.Trod enc Tryd.prog w 0 (fun _ => true) true t v d p) : ∃ A c xs, v = .slice A xs.length c ∧ sliceR w k R [.slice A xs.length c] xs ∧ sz xs ≤ Rows.uptoBulk d := by
  obtain ⟨a0, n0, c0, rfl⟩ := okWide_slice ht hv
  obtain ⟨xs, hR, hs, _⟩ := open_arg h hd
  have hR' := hR
  obtain ⟨A, c, hcs, _⟩ := hR
  have e : [Value.slice a0 n0 c0] = [.slice A xs.length c] := by simpa [Value.cells] using hcs
  simp only [List.cons.injEq, and_true] at e
  refine ⟨A, c, xs, e, ?_, hs⟩
  rw [← e]
  simpa [Value.cells] using hR'
end Go.Proofs.YtmgpllakpgjicaaDoor

namespace Go.Proofs.YtmgpllakpgjicaaDoor
set_option maxRecDepth 100000
open Go.RowKit Go.ChangeShapes Go.WideShapes
theorem flat_single {α β : Type} (f : α → β) : ∀ xs : List α, xs.flatMap (fun l => [f l]) = xs.map f
  | [] => rfl
  | x :: r => by rw [List.flatMap_cons, flat_single f r]; rfl
theorem open_strs {w : World} {r : Reach} {base : Nat} {H : Type} {enc : TypeId × Value → H} {v : Value} {d : DataW H} {p : List MemPlace}
    (hv : Value.okWide Tryd.prog w r base 23 v) (hd : DataW.Trod enc Tryd.prog w 0 (fun _ => true) true 23 v d p) (hb : Rows.uptoBulk d ≤ 1048576) :
    ∃ A c l, v = .slice A l.length c ∧ StrRow w A l.length l ∧ l.length ≤ 1048576 ∧ (∀ x ∈ l, x.length ≤ 1048576) ∧ l.length ≤ c ∧ c ≤ maxLen ∧ (A = none → c = 0) := by
  obtain ⟨A, c, xs, e, hR, hs⟩ := open_slice_arg Tryd.underlying23 (opens_slice Tryd.underlying23 (by kernel_rfl) (opens_string Tryd.underlying9 (by kernel_rfl) w) (by omega)) hv hd
  obtain ⟨A', c', e', h1, h2, hrow⟩ := sliceR_row (k := 1) (fun l => [strV l]) (fun _ => rfl) (by omega) (fun ci x h => h) hR
  simp only [List.cons.injEq, and_true, Value.slice.injEq, true_and] at e'
  obtain ⟨rfl, rfl⟩ := e'
  obtain ⟨A2, c2, e2, _, h3, _⟩ := hR
  simp only [List.cons.injEq, and_true, Value.slice.injEq, true_and] at e2
  obtain ⟨rfl, rfl⟩ := e2
  have hl := szs_len (fun l : List UInt8 => l.length + 1) (fun x => Nat.succ_le_succ (Nat.zero_le _)) xs
  rw [flat_single] at hrow
  refine ⟨A, c, xs, e, hrow, by omega, fun x hx => ?_, h1, h2, h3.2⟩
  have h5 : x.length + 1 ≤ _ := szs_mem (fun l : List UInt8 => l.length + 1) hx
  omega
end Go.Proofs.YtmgpllakpgjicaaDoor

namespace Go.Proofs.YtmgpllakpgjicaaDoor
set_option maxRecDepth 100000
open Go.RowKit
set_option linter.unusedVariables false
set_option maxHeartbeats 8000000 in
theorem packReads_walk (b : List UInt8) (A : Option Addr) (c : Nat) (out : List (List UInt8)) (W : World) (hb : b.length ≤ 1048576) (hps : StrRow W A out.length out ∧ out.length ≤ 1048576 ∧ (∀ x ∈ out, x.length ≤ 1048576) ∧ out.length ≤ c ∧ c ≤ maxLen ∧ (A = none → c = 0)) (hT : TabK W) :
    Calls Tryd.prog 4 #[.string (bs b), .slice A out.length c] W fun e W' => e = .returned (.bool true) ∧ Gr W W' := by
  obtain ⟨ho, hol, hoz, hlc, _, hA0⟩ := hps
  have hA : A = none → out.length = 0 ∧ c = 0 := fun h => ⟨by have := hA0 h; omega, hA0 h⟩
  have HP : Sec (∀ w, Gr W w → Calls Tryd.prog 14 #[] w fun e w' => e = .returned (.bool true) ∧ Gr w w') := sec (fun w g => packs_any w (hT.gr g))
  have HS : Sec (∀ w, Gr W w → Calls Tryd.prog 16 #[.slice A out.length c] w fun e w' => ∃ A' c', e = .returned (.slice A' out.length c') ∧ StrRow w' A' out.length out ∧ Gr w w') := sec (fun w g => by
    refine (strings_any out out.length A c w (by omega) (ho.gr g) hA).mono ?_
    rintro e w' ⟨A', c', rfl, ho', g'⟩
    exact ⟨A', c', rfl, Row.own ho', g'⟩)
  have HRd : Sec (∀ w A' c', Gr W w → StrRow w A' out.length out → Calls Tryd.prog 15 #[.string (bs b), .slice A' out.length c'] w (ListPost w (pkR b out))) := sec (fun w A' c' g h => pkRead_any b out A' c' w (hT.gr g) (by omega) h (by omega) hoz)
  have HRr : Sec (∀ w, Gr W w → Calls Tryd.prog 17 #[.string (bs b), .slice A out.length c] w (ListPost w (pkR b out))) := sec (fun w g => rpkRead_any b out A c w (by omega) (ho.gr g) (by omega) hoz)
  by_cases h400 : 400 < out.length
  · have q4 : (400 : Int) < (out.length : Int) := by omega
    clear h400 HS HRd HRr ho hT hA hA0 hlc
    go_enter Tryd.func4, Tryd.ntmps4
    go_wp2_with (first
      | (go_at_call 14; (with_reducible refine Calls.mono (HP.out _ (Gr.refl _)) ?_); rintro e w1 ⟨rfl, g1⟩))
    go_ret
    exact ⟨rfl, g1⟩
  have q4 : ¬ (400 : Int) < (out.length : Int) := by omega
  have hlen : (pkR b out).1.length ≤ 140737488355328 := pkR_le b out
  obtain ⟨⟨L, E⟩, hV⟩ : ∃ V, V = pkR b out := ⟨_, rfl⟩
  rw [← hV] at HRd HRr hlen
  have HSS : Sec (∀ w A1 n1 c1 A2 n2 c2, StrRow w A1 n1 L → StrRow w A2 n2 L → Calls Tryd.prog 18 #[.slice A1 n1 c1, .slice A2 n2 c2] w fun e w' => e = .returned (.bool true) ∧ Gr w w') := sec (fun w A1 n1 c1 A2 n2 c2 h1 h2 => by
    have := sameStrings_any A1 A2 n1 n2 c1 c2 L L w h1 h2 (by have := h1.len; simp only at hlen; omega) (by have := h2.len; simp only at hlen; omega)
    simpa using this)
  unfold ListPost at HRd HRr
  simp only at HRd HRr
  obtain ⟨n, hn⟩ : ∃ n, n = out.length := ⟨_, rfl⟩
  rw [← hn] at HS HRd HRr q4 ⊢
  clear hV hn h400 hlen ho hT hA hA0 hol hoz hb hlc
  go_enter Tryd.func4, Tryd.ntmps4
  go_wp2_with (first
    | (go_at_call 16; (with_reducible refine Calls.mono (HS.out _ (Gr.refl _)) ?_); rintro e w1 ⟨A1, c1, rfl, r1, g1⟩)
    | (go_at_call 15; (with_reducible refine Calls.mono (HRd.out _ _ _ g1 r1) ?_); rintro e w2 ⟨A2, n2, c2, hn2, rfl, r2, _, _, g2⟩; clear hn2; have G2 := g1.trans g2)
    | (go_at_call 17; (with_reducible refine Calls.mono (HRr.out _ G2) ?_); rintro e w3 ⟨A3, n3, c3, hn3, rfl, r3, _, _, g3⟩; clear hn3; have G3 := G2.trans g3)
    | (go_at_call 18; (with_reducible refine Calls.mono (HSS.out _ _ _ _ _ _ _ (r2.gr g3) r3) ?_); rintro e w4 ⟨rfl, g4⟩; have G4 := G3.trans g4)
    | (go_at_call 14; (with_reducible refine Calls.mono (HP.out _ G4) ?_); rintro e w5 ⟨rfl, g5⟩))
  go_ret
  exact ⟨rfl, G4.trans g5⟩
end Go.Proofs.YtmgpllakpgjicaaDoor

namespace Go.Proofs.YtmgpllakpgjicaaDoor
open Go.RowKit Go.ChangeShapes Go.WideShapes Go.ChangeAt
set_option linter.unusedVariables false
theorem gTab : Tryd.prog.globalNamed "cartulary/sum.table" = some 0 := by kernel_rfl
theorem gTabType : (Tryd.prog.globals[0]?).map (·.type) = some 124 := by kernel_rfl
theorem cellsTab : Tryd.prog.cellsOf 124 = 64 := by kernel_rfl
theorem cellsU32 : Tryd.prog.cellsOf 64 = 1 := by kernel_rfl
def kInts : List Int := kTab.map fun x => (x.toNat : Int)
theorem table_of {W : World} {rest : List (String × DataW Unit)} (h : laidMet Tryd.prog (("cartulary/sum.table", Rows.laid_cartulary_sum_table) :: rest) W) : TabK W := by
  have ht : Lib.TabIs Tryd.prog W "cartulary/sum.table" .u32 kInts :=
    Lib.tabIs_of_head (rest := rest) gTab gTabType Tryd.underlying124 Tryd.underlying64 cellsU32 cellsTab h
  refine ⟨fun i hi => ?_⟩
  have hl : i < kInts.length := by unfold kInts; rw [List.length_map, kTab_len]; exact hi
  have := ht.cell gTab i hl
  rw [this]
  have : i < kTab.length := by rw [kTab_len]; exact hi
  simp [kInts, kAt, u32V, this]

/-- the numbers of a listed variable, flat -/
def flatW : Nat → DataW Unit → List Value
  | 0, _ => []
  | _ + 1, .lit (.int k z) => [.int k z]
  | n + 1, .agg xs => xs.flatMap (flatW n)
  | _ + 1, _ => []
noncomputable def laidHeap (l : List (String × DataW Unit)) (h : Array Obj) : Array Obj :=
  l.foldl (fun h x => match Tryd.prog.globalNamed x.1 with
    | some g => h.modify g fun
      | .cells _ t frozen => .cells (flatW 8 x.2).toArray t frozen
      | o => o
    | none => h) h
noncomputable def laidWorld (l : List (String × DataW Unit)) (os : Os) : World :=
  { World.holding Tryd.prog os ⟨#[], #[], []⟩ with heap := laidHeap l (World.holding Tryd.prog os ⟨#[], #[], []⟩).heap }
end Go.Proofs.YtmgpllakpgjicaaDoor
