/-
  PkR1: contracts and plain laws joined (29 texts). No conditions but those that each states.
-/
import Derived.Test.YtoamnifnfkgbiaaGreatDoorPkR2
import Derived.Test.YtoamnifnfkgbiaaGreatDoorObDL
import Derived.Test.YtoamnifnfkgbiaaGreatDoorDiskRead
import Derived.Test.YtoamnifnfkgbiaaGreatDoorSumL
import Derived.Test.YtoamnifnfkgbiaaGreatDoorElems
import Derived.Laws.MakeOwn
import Derived.Laws.BitsLemmas
import Derived.Deep.RegionLaw
import Derived.Deep.RegionHeld3
import Derived.Test.YtoamnifnfkgbiaaGreatDoorObD
import Derived.Deep.RegionWith
import Derived.Deep.CutRange
import Derived.Test.YtoamnifnfkgbiaaGreatDoorDiskL
import Derived.Test.YtoamnifnfkgbiaaGreatDoorMapL
import Derived.Test.YtoamnifnfkgbiaaGreatDoorDiskG
import Derived.Test.YtoamnifnfkgbiaaGreatDoorDiskA
import Derived.Test.YtoamnifnfkgbiaaGreatDoorHasL
import Derived.Deep.AppendSrc
import Derived.Deep.MidRow
import Derived.Deep.Upon
import Derived.Laws.AppendOwnNone
import Derived.Test.YtoamnifnfkgbiaaGreatDoorObL
import Derived.Test.YtoamnifnfkgbiaaGreatDoorBase
import Derived.Shelf.Sort.Plain
import Derived.Shelf.Slices.In.SortNone
import Derived.Test.YtoamnifnfkgbiaaGreatDoorRowsG
import Derived.Sort.OwnSorted
import Derived.Test.YtoamnifnfkgbiaaGreatDoorRObG
import Derived.Test.YtoamnifnfkgbiaaGreatDoorRBlock
import Derived.Test.YtoamnifnfkgbiaaGreatDoorRObD
import Derived.Test.YtoamnifnfkgbiaaGreatDoorBlock
import Derived.Test.YtoamnifnfkgbiaaGreatDoorCards
import Derived.Test.YtoamnifnfkgbiaaGreatDoorTie
import Derived.ProofKit
import Derived.Deep.DeepHandedRow
import Derived.Lib.LaidTab
namespace Go.Proofs.YtoamnifnfkgbiaaGreatDoor
open Go.RowKit
set_option linter.unusedVariables false
theorem saveR_sz (fs : List Fl) (f : Int) (name s : List UInt8) (hl : name.length ≤ 1048576) (hz : Sz fs) : Sz (saveR fs f name s).1 := by
  have hd : (name ++ dotNew).length ≤ 1099511627776 := by rw [List.length_append]; simp only [dotNew, List.length_cons, List.length_nil]; omega
  have h0 : Sz (save0 fs f name).1 := by
    unfold save0
    split
    · exact stepR_sz (rmF_sz _) _ hz
    · exact hz
  have h1 : Sz (save1 fs f name s).1 := by
    unfold save1
    split
    · exact stepR_sz (wrF_sz _ _ hd) _ h0
    · exact h0
  have h2 : Sz (save2 fs f name s).1 := by
    unfold save2
    split
    · exact stepR_sz (syF_sz _) _ h1
    · exact h1
  have h3 : Sz (save3 fs f name s).1 := by
    unfold save3
    split
    · exact stepR_sz (rnF_sz _ _ (by omega)) _ h2
    · exact h2
  unfold saveR
  split
  · split
    · exact h3
    · exact hz
  · exact hz

end Go.Proofs.YtoamnifnfkgbiaaGreatDoor

namespace Go.Proofs.YtoamnifnfkgbiaaGreatDoor
open Go.RowKit
set_option linter.unusedVariables false
/-- the file of an id -/
def fileN (id : List UInt8) : List UInt8 := 111 :: hexOf id
theorem fileN_len (id : List UInt8) : (fileN id).length = 2 * id.length + 1 := by unfold fileN; rw [List.length_cons, hexOf_len]
/-- P7.1 -/
def getO (fs : List Fl) (id : List UInt8) : List UInt8 × Int :=
  if id.length = 32 then (if (readR fs (fileN id)).2 = 0 then (if sha (readR fs (fileN id)).1 = id then ((readR fs (fileN id)).1, 0) else ([], 5)) else ([], (readR fs (fileN id)).2)) else ([], 2)
/-- P7.2: the disk, its fuse, the id, the error -/
def putO (fs : List Fl) (f : Int) (s : List UInt8) : List Fl × Int × List UInt8 × Int :=
  if (obD s).2 = 0 then
    (if (getO fs (sha s)).2 = 0 then (fs, f, sha s, 0)
     else if (saveR fs f (fileN (sha s)) s).2.2 = 0 then ((saveR fs f (fileN (sha s)) s).1, (saveR fs f (fileN (sha s)) s).2.1, sha s, 0)
     else ((saveR fs f (fileN (sha s)) s).1, (saveR fs f (fileN (sha s)) s).2.1, [], (saveR fs f (fileN (sha s)) s).2.2))
  else (fs, f, [], (obD s).2)
/-- a file's id, if an object of this id is read there -/
def idOf (fs : List Fl) (nm : List UInt8) : Option (List UInt8) :=
  if nm.head? = some 111 then (match unhex (nm.drop 1) with | none => none | some id => if (getO fs id).2 = 0 then some id else none) else none
/-- P7.3 -/
def idsR (fs : List Fl) : List (List UInt8) := fs.filterMap fun f => idOf fs f.1
def allR (fs : List Fl) : List (List UInt8) := (idsR fs).map fun id => (getO fs id).1

theorem readR_le (fs : List Fl) (name : List UInt8) : (readR fs name).1.length ≤ 1048576 := by
  unfold readR
  split
  · rename_i h
    split
    · rename_i h2
      obtain ⟨hi, _⟩ := hasF_lt (goodFs_sorted h) h2
      have := goodFs_ok h _ (List.getElem_mem hi)
      simp only [List.getD_eq_getElem?_getD, List.getElem?_eq_getElem hi, Option.getD_some, List.length_append]
      omega
    · simp
  · simp
theorem getO_le (fs : List Fl) (id : List UInt8) : (getO fs id).1.length ≤ 1048576 := by
  have := readR_le fs (fileN id)
  unfold getO
  split
  · split
    · split
      · exact this
      · simp
    · simp
  · simp
theorem getO_id {fs : List Fl} {id : List UInt8} (h : (getO fs id).2 = 0) : id.length = 32 ∧ sha (getO fs id).1 = id := by
  unfold getO at h ⊢
  split at h
  · rename_i h1
    split at h
    · rename_i h2
      split at h
      · rename_i h3
        rw [if_pos h1, if_pos h2, if_pos h3]
        exact ⟨h1, h3⟩
      · cases h
    · rename_i h2; exact absurd h h2
  · cases h
theorem readR_err (fs : List Fl) (name : List UInt8) : (readR fs name).2 = 0 ∨ (readR fs name).2 = 7 ∨ (readR fs name).2 = 3 := by
  unfold readR
  split
  · split
    · exact .inl rfl
    · exact .inr (.inl rfl)
  · exact .inr (.inr rfl)
theorem putO_sz (fs : List Fl) (f : Int) (s : List UInt8) (hz : Sz fs) : Sz (putO fs f s).1 := by
  have h := saveR_sz fs f (fileN (sha s)) s (by rw [fileN_len, sha_len]; omega) hz
  unfold putO
  split
  · split
    · exact hz
    · split
      · exact h
      · exact h
  · exact hz
theorem unhex_len : ∀ (n : Nat) (s : List UInt8), s.length ≤ n → ∀ {r : List UInt8}, unhex s = some r → s.length = 2 * r.length
  | _, [], _, r, h => by simp only [unhex, Option.some.injEq] at h; subst h; rfl
  | _, [_], _, r, h => by cases h
  | 0, a :: b :: t, hn, r, h => by simp at hn
  | n + 1, a :: b :: t, hn, r, h => by
    rw [unhex] at h
    split at h
    · cases ht : unhex t with
      | none => rw [ht] at h; cases h
      | some u =>
        rw [ht] at h
        simp only [Option.map_some, Option.some.injEq] at h
        subst h
        have := unhex_len n t (by simp only [List.length_cons] at hn; omega) ht
        simp only [List.length_cons]
        omega
    · cases h
theorem idsR_take (fs l : List Fl) (i : Nat) (h : i < l.length) : (l.take (i + 1)).filterMap (fun f => idOf fs f.1) = (l.take i).filterMap (fun f => idOf fs f.1) ++ (match idOf fs l[i].1 with | none => [] | some id => [id]) := by
  rw [List.take_succ_eq_append_getElem h, List.filterMap_append]
  congr 1
  simp only [List.filterMap_cons, List.filterMap_nil]
  cases idOf fs l[i].1 <;> rfl
theorem idsR_len (fs : List Fl) : (idsR fs).length ≤ fs.length := List.length_filterMap_le _ _
theorem idsR_32 {fs : List Fl} {id : List UInt8} (h : id ∈ idsR fs) : (getO fs id).2 = 0 := by
  unfold idsR at h
  obtain ⟨f, _, hf⟩ := List.mem_filterMap.1 h
  unfold idOf at hf
  split at hf
  · split at hf
    · cases hf
    · split at hf
      · injection hf with hf; subst hf; assumption
      · cases hf
  · cases hf
end Go.Proofs.YtoamnifnfkgbiaaGreatDoor

namespace Go.Proofs.YtoamnifnfkgbiaaGreatDoor
set_option maxRecDepth 100000
open Go.RowKit
set_option linter.unusedVariables false
theorem objId_any (b : List UInt8) (w : World) (hT : TabK w) (hb : b.length ≤ 576460752303423488) :
    Calls Tryz.prog 103 #[.string (bs b)] w fun e w' => e = .returned (.string (bs (sha b))) ∧ Gr w w' := by
  have HS := sec (sum_any b w hT hb)
  clear hT
  go_enter Tryz.func103, Tryz.ntmps103
  go_wp2_with (go_at_call 77; (with_reducible refine Calls.mono HS.out ?_); rintro e w1 ⟨rfl, g1⟩)
  go_ret
  exact ⟨rfl, g1⟩
theorem own_nilP {w : World} {k e size n cap : Nat} {A : Option Addr} {xs : List Value} (h : w.ownsRow k e size (.slice A n cap) n xs) : A = none → n = 0 ∧ cap = 0 := by
  intro e
  rcases h.2 with ⟨h, h0⟩ | ⟨g, _, _, h, _⟩
  · injection h with _ h2 h3
    exact ⟨h0, h3⟩
  · subst e; injection h with h; cases h
theorem own_capP {w : World} {k e size n cap : Nat} {A : Option Addr} {xs : List Value} (h : w.ownsRow k e size (.slice A n cap) n xs) : n ≤ cap := by
  rcases h.2 with ⟨h, h0⟩ | ⟨g, cap', cur, h, _, _, hle, _⟩
  · omega
  · injection h with _ _ h3
    subst h3
    exact hle
theorem sV_addP (G : List (List UInt8)) (x : List UInt8) : G.map strV ++ [Value.string (bs x)] = (G ++ [x]).map strV := by simp [strV]
/-- a row of the call's own lies in no older block -/
theorem own_neP {w : World} {B e size n cap : Nat} {A : Option Addr} {xs : List Value} (h : w.ownsRow B e size (.slice A n cap) n xs) {m : Nat} (hm : m < B) : some m ≠ (Value.slice A n cap).ownBlock := by
  intro he
  have := (h.lt m he.symm).1
  omega
theorem own_atP {w : World} {B e size n cap : Nat} {A : Option Addr} {xs : List Value} (h : w.ownsRow B e size (.slice A n cap) n xs) {m : Nat} (hm : m < B) : ∀ b off, A = some ⟨b, off, none⟩ → b ≠ m := by
  intro b off hA hb
  have hbk : (Value.slice A n cap).ownBlock = some b := by rw [hA]; rfl
  have := (h.lt b hbk).1
  omega
end Go.Proofs.YtoamnifnfkgbiaaGreatDoor

namespace Go.Proofs.YtoamnifnfkgbiaaGreatDoor
open Go.RowKit
set_option linter.unusedVariables false
/-- append of one piece that was just built, at a step of a region that draws its order -/
theorem step_append_new {ops : Array Oper} {o : Oper} {a : Act} {K : Act → World → Prop} {Q : Exit → Act → World → Prop} {X : Prop} {w : World} {t e : TypeId} {z : Value} {size bytes : Nat}
    (E : ElemOk t e z size bytes) (hgd : o.guard = none) (s x : Operand) (ho : o.op = .call { callee := .builtin .append, args := #[s, x], argTypes := #[t, t] })
    {A : Option Addr} {B n cap : Nat} {xs : List Value} (hs : a.eval s = .slice A n cap) (hown : w.ownsRow B e size (.slice A n cap) n xs)
    {cs : Array Value} {m c : Nat} (hx : a.eval x = .slice (some ⟨w.heap.size, 0, none⟩) m c) (hl : cs.size = m * size) (h1 : ∀ u ∈ cs.toList, u.oneCell' = true) (hm : 0 < m)
    (hbytes : (n + m) * bytes ≤ 140737488355328) (h63 : n + m ≤ maxLen) (hB : B ≤ w.heap.size)
    (h : ∀ g cap' w', w'.ownsRow B e size (.slice (some ⟨g, 0, none⟩) (n + m) cap') (n + m) (xs ++ cs.toList) → w.grownBy w' (Value.ownBlock (.slice A n cap)) → (Value.ownBlock (.slice A n cap) = some g ∨ w.heap.size ≤ g) →
      K (a.put o.dst (.slice (some ⟨g, 0, none⟩) (n + m) cap')) w') :
    if Region.wanted o (yielded ops a.tmps) = true then Oper.wp Tryz.prog o a (w.alloc (.cells cs e)) K Q else X := by
  obtain ⟨i0, hi0, hz0, hz1, hz2⟩ := info_parts E.info
  refine step_append_lies _ hgd s x t ho B e i0 z size bytes E.under hi0 hz0 hz1 hz2 E.zcells E.pos _ n xs hs (hown.alloc _) ⟨w.heap.size, 0, none⟩ m c cs.toList hx (by simpa using hl) ?_ h1 hm h63 hbytes (by simp; omega) _ rfl ?_
  · intro j u hu
    have hc : (w.alloc (.cells cs e)).cell? ⟨w.heap.size, j, none⟩ = cs[j]? := World.cell?_alloc_mark w cs e (0, 0) j
    rw [add_zero_block, hc]
    simpa using hu
  · intro g cap' w' hown' hg hat _
    refine h g cap' w' hown' ⟨hg.os, hg.tape, hg.output, by have := hg.size; simp at this; omega, fun k hk hne => (hg.block k (by simp; omega) hne).trans (Below.heap_alloc w _ k hk)⟩ ?_
    rcases hat with h | h
    · exact .inl h
    · right; simp at h; omega
theorem digit_at (n : Nat) (h : n < 16) (k : Int) (hk : k = (n : Int)) (w : World) :
    (Instr.index 9 (.string (bs [48, 49, 50, 51, 52, 53, 54, 55, 56, 57, 97, 98, 99, 100, 101, 102])) (.int .u8 k)).run Tryz.prog w = .ok (byteV (hexD n)) w := by
  subst hk
  rw [run_index_string w 9 _ _ _ Tryz.underlying9]
  have h16 : (n : Int) < 16 := by omega
  simp only [bs_size, List.length_cons, List.length_nil]
  rw [dif_pos ⟨by omega, by omega⟩]
  simp [bs_get, hexD, hexL, byteV, List.getD, h]
theorem and15 (c : UInt8) : bits .and .u8 (c.toNat : Int) 15 = ((c.toNat % 16 : Nat) : Int) := by
  have := c.toNat_lt
  exact (u8_and_nat c.toNat 15 (by omega) (by omega)).trans (congrArg _ (Nat.and_two_pow_sub_one_eq_mod c.toNat 4))

set_option maxRecDepth 100000 in
set_option maxHeartbeats 1000000 in
theorem hex_any (b : List UInt8) (w : World) (hb : b.length ≤ 17592186044416) :
    Calls Tryz.prog 163 #[.string (bs b)] w fun e w' => e = .returned (.string (bs (hexOf b))) ∧ Gr w w' := by
  obtain ⟨i0, hi0, hz0, hz1, hz2⟩ := info_parts E.u8.info
  obtain ⟨w1, hmk, hown, hgr⟩ := run_make_own (P := Tryz.prog) w w.heap.size 140 5 i0 (.int .u8 0) 1 Tryz.underlying140 hi0 hz0 hz1 .i64 .i64 (2 * b.length) (by rw [hz2]; omega) (by unfold maxLen; omega) (Nat.le_refl _)
  have hg1 : Gr w w1 := (Gr.refl w).grown hgr (by rintro k hk; cases hk)
  have e2 : ((2 * b.length : Nat) : Int) = 2 * (b.length : Int) := by simp
  rw [e2] at hmk
  obtain ⟨w2, cap, hcv, hg2, hB⟩ := conv_brow Tryz.underlying9 Tryz.underlying140 Tryz.underlying5 w1 b (by unfold maxLen; omega)
  have hown2 := own_gr hown hg2
  have hmsz := (hown.lt w.heap.size rfl).2
  have hgt := hg1.trans hg2
  have hb1 : w.heap.size ≤ w1.heap.size := hg1.size
  clear hgr hg1 hg2 hown e2 hi0 hz0 hz1 hz2
  go_enter Tryz.func163, Tryz.ntmps163
  go_wp2_with fail
  obtain ⟨g1, hg1⟩ : ∃ g1, g1 = w1.heap.size := ⟨_, rfl⟩
  rw [← hg1] at hB
  rw [← hg1]
  have hne : w.heap.size ≠ g1 := by
    have := (hown2.lt w.heap.size rfl).2
    have : g1 = w1.heap.size := hg1
    have h1 := hmsz
    omega
  have hB0 : BRow w2 w.heap.size g1 cap b := ⟨by omega, hB.lt, hB.le, hB.max, hB.there, hB.at_⟩
  clear hB hg1 hb1 hmsz hmk hcv
  rw [show ({ data := #[] } : ByteArray) = bs [] from rfl]
  go_loopw [3, 13, 5] (fun v iv _ wr => ∃ (j n : Nat) (ad : Option Addr) (cap2 : Nat), iv = .int .i64 j ∧ j ≤ b.length ∧ v = .slice ad n cap2 ∧ n = 2 * j ∧ wr.ownsRow w.heap.size 5 1 (.slice ad n cap2) n ((hexOf (b.take j)).map byteV) ∧ Value.ownBlock (.slice ad n cap2) ≠ some g1 ∧ BRow wr w.heap.size g1 cap b ∧ Gr w wr)
    (fun _ iv _ _ => b.length - (intOf iv).toNat)
  case atStart => exact ⟨0, 0, _, _, rfl, by omega, rfl, rfl, hown2, by simp [Value.ownBlock]; exact hne, hB0, hgt⟩
  case round =>
    clear hown2 hB0 hgt hne
    obtain ⟨j, n, ad, cap2, rfl, hj, rfl, hn, hown, hne, hB, hg⟩ := hrel
    by_cases hlt : j < b.length
    · have hji : (j : Int) < (b.length : Int) := by omega
      have hbc : wr.cell? ⟨g1, j, none⟩ = some (.int .u8 (b[j].toNat : Int)) := hB.at_ j _ (by simp [hlt, byteV])
      obtain ⟨c, hc⟩ : ∃ c, c = b[j] := ⟨_, rfl⟩
      rw [← hc] at hbc
      have HC := sec hc
      have hn2 : n + 2 ≤ 140737488355328 := by omega
      have hn3 : n + 2 ≤ maxLen := by unfold maxLen; omega
      have HH : Sec ((hexOf (b.take (j + 1))) = hexOf (b.take j) ++ [hexD (c.toNat / 16), hexD (c.toNat % 16)]) := sec (by
        rw [hc, List.take_succ_eq_append_getElem hlt, hexOf_snoc])
      have i1 := digit_at (c.toNat / 16) (by have := c.toNat_lt; omega) ((c.toNat : Int) / 16) (by simp)
      have i2 := digit_at (c.toNat % 16) (by omega) ((c.toNat : Int) % 16) (by simp)
      have a15 := and15 c
      rw [show ((c.toNat % 16 : Nat) : Int) = (c.toNat : Int) % 16 by simp] at a15
      have HN := sec hn
      clear hc hn
      unfold byteV at i1 i2
      go_wp2_with fail
      go_region_law ((refine step_append_new E.u8 rfl (.tmp 17) (.tmp 24) rfl rfl (w := wr.drew) hown.drew rfl rfl (by simp [Value.oneCell']) (by omega) (by omega) hn3 hg.size ?_; intro g' cap' w' hown' hgn hat))
      all_goals
        go_wp2_with fail
        go_roundw
        case rel =>
          refine ⟨j + 1, n + 2, some ⟨g', 0, none⟩, cap', by go_num, by omega, rfl, by have := HN.out; omega, ?_, ?_, ?_, ?_⟩
          · rw [HH.out, List.map_append]
            exact hown'
          · intro e
            have e' : g' = g1 := by simpa [Value.ownBlock] using e
            subst e'
            rcases hat with h | h
            · exact hne h
            · have := hB.lt; simp at h; omega
          · have hb' : w'.heap[g1]? = wr.drew.heap[g1]? := hgn.block g1 hB.lt (fun e => hne e.symm)
            exact ⟨hB.base, Nat.lt_of_lt_of_le hB.lt hgn.size, hB.le, hB.max, fun j hj => by rw [World.cell?_of_block (a := ⟨g1, j, none⟩) hb', World.frozen?_of_block (a := ⟨g1, j, none⟩) hb']; exact hB.there j hj, fun j u hu => by rw [World.cell?_of_block (a := ⟨g1, j, none⟩) hb']; exact hB.at_ j u hu⟩
          · exact hg.drew.grown hgn (fun k hk => (hown.lt k hk).1)
        case measure => simp [intOf]; omega
    · obtain rfl : j = b.length := by omega
      have hcv : (convert 140 9 (.slice ad n cap2)).run Tryz.prog wr = .ok (.string (bs (hexOf b))) wr := by
        have := run_conv_own Tryz.underlying140 Tryz.underlying5 Tryz.underlying9 hown
        rwa [List.take_length] at this
      clear hn
      go_wp2_with fail
      go_ret
      exact ⟨rfl, hg⟩

theorem sha_abc : bs (hexOf (sha [97, 98, 99])) = bs [98, 97, 55, 56, 49, 54, 98, 102, 56, 102, 48, 49, 99, 102, 101, 97, 52, 49, 52, 49, 52, 48, 100, 101, 53, 100, 97, 101, 50, 50, 50, 51, 98, 48, 48, 51, 54, 49, 97, 51, 57, 54, 49, 55, 55, 97, 57, 99, 98, 52, 49, 48, 102, 102, 54, 49, 102, 50, 48, 48, 49, 53, 97, 100] :=
  congrArg bs Abc.hex

end Go.Proofs.YtoamnifnfkgbiaaGreatDoor

namespace Go.Proofs.YtoamnifnfkgbiaaGreatDoor
open Go.RowKit
set_option linter.unusedVariables false
set_option maxRecDepth 100000 in
set_option maxHeartbeats 1000000 in
theorem digit_any (c : UInt8) (w : World) :
    Calls Tryz.prog 107 #[.int .u8 (c.toNat : Int)] w fun e w' => e = .returned (.int .u8 (unD c : Int)) ∧ w' = w := by
  have hc := c.toNat_lt
  have HU := sec (show unD c = if 48 ≤ c.toNat ∧ c.toNat ≤ 57 then c.toNat - 48 else if 97 ≤ c.toNat ∧ c.toNat ≤ 102 then c.toNat - 87 else 16 from rfl)
  have fin : ∀ (k : Int), k = (unD c : Int) → ∀ w', w' = w → ((Ending.returned (.int .u8 k)) = .returned (.int .u8 (unD c : Int)) ∧ w' = w) := fun k hk w' hg => ⟨by rw [hk], hg⟩
  obtain ⟨n, hn⟩ : ∃ n, n = c.toNat := ⟨_, rfl⟩
  rw [← hn] at HU hc
  rw [← hn]
  clear hn
  by_cases h1 : 48 ≤ n
  · have h1' : (48 : Int) ≤ (n : Int) := by omega
    by_cases h2 : n ≤ 57
    · have h2' : (n : Int) ≤ 57 := by omega
      go_enter Tryz.func107, Tryz.ntmps107
      go_wp2_with fail
      go_ret
      exact fin _ (by rw [HU.out, if_pos ⟨h1, h2⟩]; omega) _ rfl
    · have h2' : ¬ (n : Int) ≤ 57 := by omega
      by_cases h3 : 97 ≤ n
      · have h3' : (97 : Int) ≤ (n : Int) := by omega
        by_cases h4 : n ≤ 102
        · have h4' : (n : Int) ≤ 102 := by omega
          go_enter Tryz.func107, Tryz.ntmps107
          go_wp2_with fail
          go_ret
          exact fin _ (by rw [HU.out, if_neg (fun h => h2 h.2), if_pos ⟨h3, h4⟩]; omega) _ rfl
        · have h4' : ¬ (n : Int) ≤ 102 := by omega
          go_enter Tryz.func107, Tryz.ntmps107
          go_wp2_with fail
          go_ret
          exact fin _ (by rw [HU.out, if_neg (fun h => h2 h.2), if_neg (fun h => h4 h.2)]; rfl) _ rfl
      · have h3' : ¬ (97 : Int) ≤ (n : Int) := by omega
        go_enter Tryz.func107, Tryz.ntmps107
        go_wp2_with fail
        go_ret
        exact fin _ (by rw [HU.out, if_neg (fun h => h2 h.2), if_neg (fun h => h3 h.1)]; rfl) _ rfl
  · have h1' : ¬ (48 : Int) ≤ (n : Int) := by omega
    have h3' : ¬ (97 : Int) ≤ (n : Int) := by omega
    go_enter Tryz.func107, Tryz.ntmps107
    go_wp2_with fail
    go_ret
    exact fin _ (by rw [HU.out, if_neg (fun h => h1 h.1), if_neg (fun h => by omega)]; rfl) _ rfl
end Go.Proofs.YtoamnifnfkgbiaaGreatDoor

namespace Go.Proofs.YtoamnifnfkgbiaaGreatDoor
set_option maxRecDepth 100000
open Go.RowKit
set_option linter.unusedVariables false
set_option maxHeartbeats 2000000 in
theorem stoFile_any (id : List UInt8) (w : World) (hid : id.length ≤ 1099511627776) :
    Calls Tryz.prog 105 #[.string (bs id)] w fun e w' => e = .returned (.string (bs (fileN id))) ∧ Gr w w' := by
  have HH := sec (hex_any id w (by omega))
  have hl := hexOf_len id
  obtain ⟨X, hX⟩ : ∃ X, X = hexOf id := ⟨_, rfl⟩
  have HF : Sec (fileN id = 111 :: X) := sec (by rw [hX]; rfl)
  rw [← hX] at HH hl
  have hcat : ¬ 9223372036854775807 < 1 + X.length := by omega
  clear hX hl
  go_enter Tryz.func105, Tryz.ntmps105
  go_wp2_with (go_at_call 163; (with_reducible refine Calls.mono HH.out ?_); rintro e w1 ⟨rfl, g1⟩)
  go_ret
  rw [HF.out]
  exact ⟨rfl, g1⟩

set_option maxHeartbeats 8000000 in
theorem stoGet_any (fs : List Fl) (id : List UInt8) (A : Option Addr) (n cap : Nat) (f : Int) (w : World) (hn : n ≤ 1099511627776) (hx : FRow w A n fs) (hs : ∀ f ∈ fs, f.1.length ≤ 1099511627776 ∧ f.2.1.length ≤ 1099511627776 ∧ f.2.2.length ≤ 1099511627776) (hid : id.length ≤ 1099511627776) (hT : TabK w) :
    Calls Tryz.prog 63 #[diskV A n cap f, .string (bs id)] w fun e w' => e = .returned (.tuple #[.string (bs (getO fs id).1), .int .i64 (getO fs id).2]) ∧ Gr w w' := by
  have hg0 := (Gr.refl w).alloc (.cells #[.slice A n cap, .int .i64 f] 24)
  have hb1 := Blk.new w 24 #[.slice A n cap, .int .i64 f]
  obtain ⟨wa, hwa⟩ : ∃ x, x = w.alloc (.cells #[.slice A n cap, .int .i64 f] 24) := ⟨_, rfl⟩
  rw [← hwa] at hg0 hb1
  obtain ⟨p, hp⟩ : ∃ p, p = w.heap.size := ⟨_, rfl⟩
  rw [← hp] at hb1
  have HRd : Sec (∀ W, Gr wa W → Calls Tryz.prog 76 #[diskV A n cap f, .string (bs (fileN id))] W fun e w' => e = .returned (.tuple #[.string (bs (readR fs (fileN id)).1), .int .i64 (readR fs (fileN id)).2]) ∧ Gr W w') := sec (fun W g => read_any fs (fileN id) A n cap f W hn (hx.gr (hg0.trans g)) hs)
  have HRL := readR_le fs (fileN id)
  obtain ⟨V, hV⟩ : ∃ V, V = getO fs id := ⟨_, rfl⟩
  obtain ⟨⟨r, er⟩, hR⟩ : ∃ R, R = readR fs (fileN id) := ⟨_, rfl⟩
  have HV : Sec (V = if id.length = 32 then (if er = 0 then (if sha r = id then (r, 0) else ([], 5)) else ([], er)) else ([], 2)) := sec (by rw [hV]; unfold getO; rw [← hR])
  rw [← hR] at HRd HRL
  rw [← hV]
  simp only at HRL HRd
  unfold diskV at HRd
  unfold diskV
  have HId : Sec (∀ W, Gr wa W → Calls Tryz.prog 103 #[.string (bs r)] W fun e w' => e = .returned (.string (bs (sha r))) ∧ Gr W w') := sec (fun W g => objId_any r W ((hT.gr hg0).gr g) (by omega))
  have HSK : Sec (∀ W, Gr wa W → W.cell? ⟨p, 0, none⟩ = some (.slice A n cap) ∧ W.cell? ⟨p, 1, none⟩ = some (.int .i64 f) ∧ Gr wa W) := sec (fun W g => ⟨(hb1.gr g).cell 0, (hb1.gr g).cell 1, g⟩)

  have HFi := sec (fun W => stoFile_any id W hid)
  obtain ⟨X, hX⟩ : ∃ X, X = fileN id := ⟨_, rfl⟩
  rw [← hX] at HFi HRd
  clear hX
  obtain ⟨c0, c1, _⟩ := HSK.out wa (Gr.refl _)
  clear hx hs hV hR hb1 hT
  by_cases h32 : id.length = 32
  case neg =>
    have q1 : ((id.length : Int) != 32) = true := by rw [bne_iff_ne]; omega
    have HX : Sec (V = ([], 2)) := sec (by rw [HV.out, if_neg h32])
    clear h32 HV
    go_enter Tryz.func63, Tryz.ntmps63
    go_wp2_with fail
    go_ret2
    rw [HX.out]
    rw [← hwa]
    exact ⟨rfl, hg0⟩
  have q1 : ((id.length : Int) != 32) = false := by rw [bne_eq_false_iff_eq]; omega
  have HV2 : Sec (V = if er = 0 then (if sha r = id then (r, 0) else ([], 5)) else ([], er)) := sec (by rw [HV.out, if_pos h32])
  clear h32 HV
  by_cases her : er = 0
  case neg =>
    have q2 : (er != 0) = true := by rw [bne_iff_ne]; exact her
    have HX : Sec (V = ([], er)) := sec (by rw [HV2.out, if_neg her])
    clear her HV2
    go_enter Tryz.func63, Tryz.ntmps63
    go_upto_region 3 with fail
    rw [← hwa, ← hp]
    clear hwa hp
    have gd : Gr wa wa.drew := (Gr.refl _).drew
    go_region_held3 (fun w' => w'.cell? ⟨p, 0, none⟩ = some (.slice A n cap) ∧ w'.cell? ⟨p, 1, none⟩ = some (.int .i64 f) ∧ Gr wa w')
      (first | with_reducible assumption | with_reducible exact HSK.out _ gd | with_reducible exact HSK.out _ g1 | with_reducible exact HSK.out _ g2 | with_reducible exact HSK.out _ (Gr.refl _) | fail)
      (first
        | (go_at_call 105; (with_reducible refine Calls.mono (HFi.out wa.drew) ?_); rintro e w1 ⟨rfl, g1'⟩; have g1 : Gr wa w1 := Gr.trans gd g1')
        | (go_at_call 76; (with_reducible refine Calls.mono (HRd.out w1 g1) ?_); rintro e w2 ⟨rfl, g2'⟩; have g2 : Gr wa w2 := Gr.trans g1 g2')
        | fail)
    all_goals (go_wp2_with fail; go_ret2; rw [HX.out]; exact ⟨rfl, hg0.trans g2⟩)
  subst her
  cases hq : sha r == id with
  | true =>
    have hq' : sha r = id := by simpa using hq
    have HX : Sec (V = (r, 0)) := sec (by rw [HV2.out, if_pos rfl, if_pos hq'])
    rw [hq'] at HId
    clear hq hq' HV2
    go_enter Tryz.func63, Tryz.ntmps63
    go_upto_region 3 with fail
    rw [← hwa, ← hp]
    clear hwa hp
    have gd : Gr wa wa.drew := (Gr.refl _).drew
    go_region_held3 (fun w' => w'.cell? ⟨p, 0, none⟩ = some (.slice A n cap) ∧ w'.cell? ⟨p, 1, none⟩ = some (.int .i64 f) ∧ Gr wa w')
      (first | with_reducible assumption | with_reducible exact HSK.out _ gd | with_reducible exact HSK.out _ g1 | with_reducible exact HSK.out _ g2 | with_reducible exact HSK.out _ (Gr.refl _) | fail)
      (first
        | (go_at_call 105; (with_reducible refine Calls.mono (HFi.out wa.drew) ?_); rintro e w1 ⟨rfl, g1'⟩; have g1 : Gr wa w1 := Gr.trans gd g1')
        | (go_at_call 76; (with_reducible refine Calls.mono (HRd.out w1 g1) ?_); rintro e w2 ⟨rfl, g2'⟩; have g2 : Gr wa w2 := Gr.trans g1 g2')
        | fail)
    all_goals (go_wp2_with (go_at_call 103; (with_reducible refine Calls.mono (HId.out _ g2) ?_); rintro e w3 ⟨rfl, g3⟩); go_ret2; rw [HX.out]; exact ⟨rfl, (hg0.trans g2).trans g3⟩)
  | false =>
    have hq' : ¬ sha r = id := by simpa using hq
    have HX : Sec (V = ([], 5)) := sec (by rw [HV2.out, if_pos rfl, if_neg hq'])
    obtain ⟨S, hS⟩ : ∃ S, S = sha r := ⟨_, rfl⟩
    rw [← hS] at HId hq
    clear hq' hS HV2
    go_enter Tryz.func63, Tryz.ntmps63
    go_upto_region 3 with fail
    rw [← hwa, ← hp]
    clear hwa hp
    have gd : Gr wa wa.drew := (Gr.refl _).drew
    go_region_held3 (fun w' => w'.cell? ⟨p, 0, none⟩ = some (.slice A n cap) ∧ w'.cell? ⟨p, 1, none⟩ = some (.int .i64 f) ∧ Gr wa w')
      (first | with_reducible assumption | with_reducible exact HSK.out _ gd | with_reducible exact HSK.out _ g1 | with_reducible exact HSK.out _ g2 | with_reducible exact HSK.out _ (Gr.refl _) | fail)
      (first
        | (go_at_call 105; (with_reducible refine Calls.mono (HFi.out wa.drew) ?_); rintro e w1 ⟨rfl, g1'⟩; have g1 : Gr wa w1 := Gr.trans gd g1')
        | (go_at_call 76; (with_reducible refine Calls.mono (HRd.out w1 g1) ?_); rintro e w2 ⟨rfl, g2'⟩; have g2 : Gr wa w2 := Gr.trans g1 g2')
        | fail)
    all_goals (go_wp2_with (go_at_call 103; (with_reducible refine Calls.mono (HId.out _ g2) ?_); rintro e w3 ⟨rfl, g3⟩); go_ret2; rw [HX.out]; exact ⟨rfl, (hg0.trans g2).trans g3⟩)
end Go.Proofs.YtoamnifnfkgbiaaGreatDoor

namespace Go.Proofs.YtoamnifnfkgbiaaGreatDoor
set_option maxRecDepth 100000
open Go.RowKit
set_option linter.unusedVariables false
/-- what a put hands back -/
def PutPost (r : List Fl × Int × List UInt8 × Int) (A : Option Addr) (n cap : Nat) (fs : List Fl) (w : World) (e : Ending) (w' : World) : Prop :=
  ∃ A' n' cap', e = .returned (.tuple #[diskV A' n' cap' r.2.1, .string (bs r.2.2.1), .int .i64 r.2.2.2]) ∧ Gr w w' ∧ (A' = none → n' = 0 ∧ cap' = 0) ∧
    ((A' = A ∧ n' = n ∧ cap' = cap ∧ r.1 = fs) ∨ w'.ownsRow w.heap.size 105 3 (.slice A' n' cap') n' (r.1.flatMap fileC))
/-- the disk in its cell, behind a save -/
structure PMid (w : World) (p q : Nat) (A : Option Addr) (n cap : Nat) (fs gs : List Fl) (u : Int) (A' : Option Addr) (n' cap' : Nat) (wx : World) : Prop where
  dk : Blk wx p 24 #[.slice A' n' cap', .int .i64 u]
  rs : Blk wx q 24 #[.slice none 0 0, .int .i64 0]
  gr : Gr w wx
  nil : A' = none → n' = 0 ∧ cap' = 0
  row : (A' = A ∧ n' = n ∧ cap' = cap ∧ gs = fs) ∨ wx.ownsRow w.heap.size 105 3 (.slice A' n' cap') n' (gs.flatMap fileC)
theorem own_set2P {w w' : World} {e size n cap p : Nat} {A : Option Addr} {xs : List Value} (h : w'.ownsRow w.heap.size e size (.slice A n cap) n xs) (hp : p < w.heap.size) (u v : Value) :
    ((w'.setCell ⟨p, 0, none⟩ u).setCell ⟨p, 1, none⟩ v).ownsRow w.heap.size e size (.slice A n cap) n xs := by
  have hne : (Value.slice A n cap).ownBlock ≠ some p := fun e => by have := (h.lt _ e).1; omega
  exact ownsRow_setCell_other (ownsRow_setCell_other h (a := ⟨p, 0, none⟩) hne _) (a := ⟨p, 1, none⟩) hne _
theorem pmid {w w4 w5 w6 : World} {p q n cap n' cap' : Nat} {A A' : Option Addr} {fs gs : List Fl} {f u : Int} (k4 : Gr w w4) (k5 : Gr w4 w5) (k6 : Gr w5 w6) (hwp : w.heap.size ≤ p) (hpq : p ≠ q) (hp : p < w4.heap.size)
    (bd : Blk w4 p 24 #[.slice A n cap, .int .i64 f]) (bq : Blk w4 q 24 #[.slice none 0 0, .int .i64 0]) (hn : A' = none → n' = 0 ∧ cap' = 0)
    (h : (A' = A ∧ n' = n ∧ cap' = cap ∧ gs = fs) ∨ w6.ownsRow w5.heap.size 105 3 (.slice A' n' cap') n' (gs.flatMap fileC)) :
    PMid w p q A n cap fs gs u A' n' cap' ((w6.setCell ⟨p, 0, none⟩ (.slice A' n' cap')).setCell ⟨p, 1, none⟩ (.int .i64 u)) := by
  refine ⟨((bd.gr (k5.trans k6)).set_ 0 _).set_ 1 _, ((bq.gr (k5.trans k6)).far (p := ⟨p, 0, none⟩) (fun e => hpq e.symm) _).far (p := ⟨p, 1, none⟩) (fun e => hpq e.symm) _, (((k4.trans k5).trans k6).setCell (p := ⟨p, 0, none⟩) hwp _).setCell (p := ⟨p, 1, none⟩) hwp _, hn, ?_⟩
  rcases h with h | h
  · exact .inl h
  · exact .inr (own_low (own_set2P h (Nat.lt_of_lt_of_le hp k5.size) _ _) (Nat.le_trans k4.size k5.size))
theorem putEndS {w w' : World} {A A' : Option Addr} {n cap n' cap' q : Nat} {fs gs : List Fl} (g : Gr w w') (hwq : w.heap.size ≤ q) (hq : ∀ k, (Value.slice A' n' cap').ownBlock = some k → w'.ownsRow w.heap.size 105 3 (.slice A' n' cap') n' (gs.flatMap fileC) → k ≠ q)
    (h : (A' = A ∧ n' = n ∧ cap' = cap ∧ gs = fs) ∨ w'.ownsRow w.heap.size 105 3 (.slice A' n' cap') n' (gs.flatMap fileC)) (x y : Value) :
    Gr w ((w'.setCell ⟨q, 0, none⟩ x).setCell ⟨q, 1, none⟩ y) ∧ ((A' = A ∧ n' = n ∧ cap' = cap ∧ gs = fs) ∨ ((w'.setCell ⟨q, 0, none⟩ x).setCell ⟨q, 1, none⟩ y).ownsRow w.heap.size 105 3 (.slice A' n' cap') n' (gs.flatMap fileC)) := by
  refine ⟨(g.setCell (p := ⟨q, 0, none⟩) hwq _).setCell (p := ⟨q, 1, none⟩) hwq _, ?_⟩
  rcases h with h | h
  · exact .inl h
  · have hne : (Value.slice A' n' cap').ownBlock ≠ some q := fun e => hq q e h rfl
    exact .inr (ownsRow_setCell_other (ownsRow_setCell_other h (a := ⟨q, 0, none⟩) hne _) (a := ⟨q, 1, none⟩) hne _)

set_option maxHeartbeats 16000000 in
theorem stoPut_any (fs : List Fl) (s : List UInt8) (A : Option Addr) (n cap : Nat) (f : Int) (w : World) (hx : FRow w A n fs) (hnc : n ≤ cap) (hA : A = none → n = 0 ∧ cap = 0) (hz : Sz fs) (hf : -9223372036854775808 ≤ f ∧ f ≤ 9223372036854775807) (hs : s.length ≤ 1099511627775) (hT : TabK w) :
    Calls Tryz.prog 62 #[diskV A n cap f, .string (bs s)] w (PutPost (putO fs f s) A n cap fs w) := by
  have hln := hx.len
  have hn40 : n ≤ 1099511627776 := by have := hz.1; omega
  have hz2 := hz.2
  have hDl : (sha s).length = 32 := sha_len s
  have HDec : Sec (∀ W, Calls Tryz.prog 54 #[.string (bs s)] W (DecPost W (obD s))) := sec (fun W => obDec_any s W hs)
  have HId : Sec (∀ W, Gr w W → Calls Tryz.prog 103 #[.string (bs s)] W fun e w' => e = .returned (.string (bs (sha s))) ∧ Gr W w') := sec (fun W g => objId_any s W (hT.gr g) (by omega))
  have HGet : Sec (∀ W, Gr w W → Calls Tryz.prog 63 #[diskV A n cap f, .string (bs (sha s))] W fun e w' => e = .returned (.tuple #[.string (bs (getO fs (sha s)).1), .int .i64 (getO fs (sha s)).2]) ∧ Gr W w') := sec (fun W g => stoGet_any fs (sha s) A n cap f W hn40 (hx.gr g) hz2 (by rw [hDl]; omega) (hT.gr g))
  have HFi : Sec (∀ W, Calls Tryz.prog 105 #[.string (bs (sha s))] W fun e w' => e = .returned (.string (bs (fileN (sha s)))) ∧ Gr W w') := sec (fun W => stoFile_any (sha s) W (by rw [hDl]; omega))
  have HSv : Sec (∀ W, Gr w W → Calls Tryz.prog 104 #[diskV A n cap f, .string (bs (fileN (sha s))), .string (bs s)] W (StepPost (saveR fs f (fileN (sha s)) s) A n cap fs W)) := sec (fun W g => save_any (fileN (sha s)) s fs A n cap f W (hx.gr g) hnc hA hz hf (by rw [fileN_len, hDl]; omega) (by omega))
  obtain ⟨V, hV⟩ : ∃ V, V = putO fs f s := ⟨_, rfl⟩
  have HV : Sec (V = if (obD s).2 = 0 then (if (getO fs (sha s)).2 = 0 then (fs, f, sha s, 0) else if (saveR fs f (fileN (sha s)) s).2.2 = 0 then ((saveR fs f (fileN (sha s)) s).1, (saveR fs f (fileN (sha s)) s).2.1, sha s, 0) else ((saveR fs f (fileN (sha s)) s).1, (saveR fs f (fileN (sha s)) s).2.1, [], (saveR fs f (fileN (sha s)) s).2.2)) else (fs, f, [], (obD s).2)) := sec hV
  rw [← hV]
  clear hV
  obtain ⟨⟨gs, u, ee⟩, hR⟩ : ∃ R, R = saveR fs f (fileN (sha s)) s := ⟨_, rfl⟩
  rw [← hR] at HSv HV
  obtain ⟨⟨gt, ge⟩, hG⟩ : ∃ R, R = getO fs (sha s) := ⟨_, rfl⟩
  rw [← hG] at HGet HV
  obtain ⟨⟨⟨kd, dt, en, tr, pa, wh, no, ti, ta⟩, E⟩, hE⟩ : ∃ r, r = obD s := ⟨_, rfl⟩
  rw [← hE] at HV HDec
  obtain ⟨D, hD⟩ : ∃ D, D = sha s := ⟨_, rfl⟩
  rw [← hD] at HV HId HGet HFi HSv hDl

  obtain ⟨X, hX⟩ : ∃ X, X = fileN D := ⟨_, rfl⟩
  rw [← hX] at HFi HSv
  clear hX
  unfold DecPost obA at HDec
  unfold StepPost at HSv
  unfold diskV at HGet HSv
  unfold diskV
  simp only at HDec HV HGet HSv
  have G0 : Gr w ((w.alloc (.cells #[.slice A n cap, .int .i64 f] 24)).alloc (.cells #[.slice none 0 0, .int .i64 0] 24)) := ((Gr.refl w).alloc _).alloc _
  have B0 := (Blk.new w 24 #[.slice A n cap, .int .i64 f]).alloc (.cells #[.slice none 0 0, .int .i64 0] 24)
  have Q0 := Blk.new1 w (.cells #[.slice A n cap, .int .i64 f] 24) 24 #[.slice none 0 0, .int .i64 0]
  obtain ⟨wa, hwa⟩ : ∃ x, x = (w.alloc (.cells #[.slice A n cap, .int .i64 f] 24)).alloc (.cells #[.slice none 0 0, .int .i64 0] 24) := ⟨_, rfl⟩
  rw [← hwa] at G0 B0 Q0
  obtain ⟨p, hp⟩ : ∃ p, p = w.heap.size := ⟨_, rfl⟩
  rw [← hp] at B0 Q0
  have hwp : w.heap.size ≤ p := by omega
  have hwq : w.heap.size ≤ p + 1 := by omega
  have hpl := B0.lt
  have hql := Q0.lt
  have HSK : Sec (∀ W, Gr wa W → W.cell? ⟨p, 0, none⟩ = some (.slice A n cap) ∧ W.cell? ⟨p, 1, none⟩ = some (.int .i64 f) ∧ W.cell? ⟨p + 1, 0, none⟩ = some (.slice none 0 0) ∧ W.cell? ⟨p + 1, 1, none⟩ = some (.int .i64 0) ∧ W.frozen? ⟨p, 0, none⟩ = false ∧ W.frozen? ⟨p, 1, none⟩ = false ∧ W.frozen? ⟨p + 1, 0, none⟩ = false ∧ W.frozen? ⟨p + 1, 1, none⟩ = false) := sec (fun W g => ⟨(B0.gr g).cell 0, (B0.gr g).cell 1, (Q0.gr g).cell 0, (Q0.gr g).cell 1, (B0.gr g).frozen 0, (B0.gr g).frozen 1, (Q0.gr g).frozen 0, (Q0.gr g).frozen 1⟩)
  have HQ := sec Q0
  have HB := sec B0
  have HG0 := sec G0
  have HA := sec hA
  clear hx hz hz2 hR hG hE hD hDl hA B0 Q0 G0 hT
  go_enter Tryz.func62, Tryz.ntmps62
  go_upto_region 1 with fail
  rw [← hwa, ← hp]
  clear hwa hp
  go_upto_region 2 with (first
    | (go_at_call 54; (with_reducible refine Calls.mono (HDec.out _) ?_); rintro e w2 ⟨A1, c1, B1, d1, rfl, r2, g2⟩)
    | (refine wpList_store_blk rfl 91 (.tmp 7) (.tmp 16) rfl (g := w2.heap.size) (cs' := obA ⟨kd, dt, en, tr, pa, wh, no, ti, ta⟩ A1 c1 B1 d1) rfl rfl (Blk.new w2 _ _) aggOb rfl (obA_one _ _ _ _ _) ?_; intro w3 h3 hg3))
  have z3 : Gr wa w3 := g2.trans (Gr.only ((Gr.refl w2).alloc _) hg3 (Nat.le_refl _))
  clear h3 hg3 r2 g2
  obtain ⟨c0, c1', q0, q1, f0, f1, y0, y1⟩ := HSK.out w3 z3
  by_cases hE0 : E = 0
  case neg =>
    have qe : (E != 0) = true := by rw [bne_iff_ne]; exact hE0
    have HX : Sec (V = (fs, f, [], E)) := sec (by rw [HV.out, if_neg hE0])
    clear hE0
    go_wp2_with fail
    refine bodyPost_ret (results_blk_tmp2 rfl _ rfl (((HQ.out.gr z3).set_ 0 (.slice A n cap)).set_ 1 (.int .i64 f)) aggDisk) rfl ?_
    rw [HX.out]
    exact ⟨A, n, cap, rfl, ((HG0.out.trans z3).setCell (p := ⟨p + 1, 0, none⟩) hwq _).setCell (p := ⟨p + 1, 1, none⟩) hwq _, HA.out, .inl ⟨rfl, rfl, rfl, rfl⟩⟩
  subst hE0
  have HV2 : Sec (V = if ge = 0 then (fs, f, D, 0) else if ee = 0 then (gs, u, D, 0) else (gs, u, [], ee)) := sec (by rw [HV.out, if_pos rfl])
  clear HV
  by_cases hge : ge = 0
  · subst hge
    have HX : Sec (V = (fs, f, D, 0)) := sec (by rw [HV2.out, if_pos rfl])
    clear HV2
    go_wp2_with (first
      | (go_at_call 103; (with_reducible refine Calls.mono (HId.out _ (HG0.out.trans z3)) ?_); rintro e w4 ⟨rfl, g4⟩; have z4 := z3.trans g4; obtain ⟨c0, c1', q0, q1, f0, f1, y0, y1⟩ := HSK.out w4 z4)
      | (go_at_call 63; (with_reducible refine Calls.mono (HGet.out _ (HG0.out.trans z4)) ?_); rintro e w5 ⟨rfl, g5⟩; have z5 := z4.trans g5; obtain ⟨c0, c1', q0, q1, f0, f1, y0, y1⟩ := HSK.out w5 z5))
    refine bodyPost_ret (results_blk_tmp2 rfl _ rfl (((HQ.out.gr z5).set_ 0 (.slice A n cap)).set_ 1 (.int .i64 f)) aggDisk) rfl ?_
    rw [HX.out]
    exact ⟨A, n, cap, rfl, ((HG0.out.trans z5).setCell (p := ⟨p + 1, 0, none⟩) hwq _).setCell (p := ⟨p + 1, 1, none⟩) hwq _, HA.out, .inl ⟨rfl, rfl, rfl, rfl⟩⟩
  have qg : (ge == 0) = false := by rw [beq_eq_false_iff_ne]; exact hge
  have HV3 : Sec (V = if ee = 0 then (gs, u, D, 0) else (gs, u, [], ee)) := sec (by rw [HV2.out, if_neg hge])
  clear hge HV2
  go_upto_region 8 with (first
    | (go_at_call 103; (with_reducible refine Calls.mono (HId.out _ (HG0.out.trans z3)) ?_); rintro e w4 ⟨rfl, g4⟩; have z4 := z3.trans g4; obtain ⟨c0, c1', q0, q1, f0, f1, y0, y1⟩ := HSK.out w4 z4)
    | (go_at_call 63; (with_reducible refine Calls.mono (HGet.out _ (HG0.out.trans z4)) ?_); rintro e w5 ⟨rfl, g5⟩; have z5 := z4.trans g5; obtain ⟨c0, c1', q0, q1, f0, f1, y0, y1⟩ := HSK.out w5 z5))
  have gd : Gr w5 w5.drew := (Gr.refl _).drew
  have HMID : Sec (∀ w6 w7 A' n' cap', Gr w5 w6 → Gr w6 w7 → (A' = none → n' = 0 ∧ cap' = 0) → ((A' = A ∧ n' = n ∧ cap' = cap ∧ gs = fs) ∨ w7.ownsRow w6.heap.size 105 3 (.slice A' n' cap') n' (gs.flatMap fileC)) → PMid w p (p + 1) A n cap fs gs u A' n' cap' ((w7.setCell ⟨p, 0, none⟩ (.slice A' n' cap')).setCell ⟨p, 1, none⟩ (.int .i64 u))) := sec (fun w6 w7 A' n' cap' k5 k6 h1 h => pmid (HG0.out.trans z5) k5 k6 hwp (by omega) (Nat.lt_of_lt_of_le hpl z5.size) (HB.out.gr z5) (HQ.out.gr z5) h1 h)
  go_cut [12] from 34 to 41 (fun v wx => ∃ (A' : Option Addr) (n' cap' : Nat), v = .int .i64 ee ∧ Sec (PMid w p (p + 1) A n cap fs gs u A' n' cap' wx))
  case first =>
    go_region_with (first
      | (go_at_call 105; (with_reducible refine Calls.mono (HFi.out w5.drew) ?_); rintro e w6 ⟨rfl, g6'⟩; have g6 : Gr w5 w6 := Gr.trans gd g6'; obtain ⟨x0, x1, _, _, xf0, xf1, _, _⟩ := HSK.out w6 (z5.trans g6))
      | (go_at_call 104; (with_reducible refine Calls.mono (HSv.out w6 (HG0.out.trans (z5.trans g6))) ?_); rintro e w7 ⟨A', n', cap', rfl, g7, hA7, ha⟩; obtain ⟨x0, x1, _, _, xf0, xf1, _, _⟩ := HSK.out w7 ((z5.trans g6).trans g7)))
    all_goals (go_wp2_with fail; go_meet; exact ⟨A', n', cap', rfl, HMID.out w6 w7 A' n' cap' g6 g7 hA7 ha |> sec⟩)
  case rest =>
    clear c0 c1' q0 q1 f0 f1 y0 y1
    obtain ⟨A', n', cap', rfl, HM⟩ := hcut
    have c0 := HM.out.dk.cell 0
    have c1 := HM.out.dk.cell 1
    have q0 := HM.out.rs.cell 0
    have q1 := HM.out.rs.cell 1
    have y0 := HM.out.rs.frozen 0
    have y1 := HM.out.rs.frozen 1
    have HNQ : Sec (∀ k, (Value.slice A' n' cap').ownBlock = some k → wc.ownsRow w.heap.size 105 3 (.slice A' n' cap') n' (gs.flatMap fileC) → k ≠ p + 1) := sec (fun k hk h hkp => by
      subst hkp
      exact own_blk_ne h HM.out.rs (by decide) hk)
    by_cases he0 : ee = 0
    · subst he0
      have HX : Sec (V = (gs, u, D, 0)) := sec (by rw [HV3.out, if_pos rfl])
      clear HV3
      go_wp2_with fail
      refine bodyPost_ret (results_blk_tmp2 rfl _ rfl ((HM.out.rs.set_ 0 (.slice A' n' cap')).set_ 1 (.int .i64 u)) aggDisk) rfl ?_
      rw [HX.out]
      obtain ⟨t1, t2⟩ := putEndS (q := p + 1) HM.out.gr hwq HNQ.out HM.out.row (.slice A' n' cap') (.int .i64 u)
      exact ⟨A', n', cap', rfl, t1, HM.out.nil, t2⟩
    · have qe : (ee != 0) = true := by rw [bne_iff_ne]; exact he0
      have HX : Sec (V = (gs, u, [], ee)) := sec (by rw [HV3.out, if_neg he0])
      clear HV3 he0
      go_wp2_with fail
      refine bodyPost_ret (results_blk_tmp2 rfl _ rfl ((HM.out.rs.set_ 0 (.slice A' n' cap')).set_ 1 (.int .i64 u)) aggDisk) rfl ?_
      rw [HX.out]
      obtain ⟨t1, t2⟩ := putEndS (q := p + 1) HM.out.gr hwq HNQ.out HM.out.row (.slice A' n' cap') (.int .i64 u)
      exact ⟨A', n', cap', rfl, t1, HM.out.nil, t2⟩
end Go.Proofs.YtoamnifnfkgbiaaGreatDoor

namespace Go.Proofs.YtoamnifnfkgbiaaGreatDoor
set_option maxRecDepth 100000
open Go.RowKit
set_option linter.unusedVariables false
theorem hexD_named : ∀ n : Fin 16, nameC (hexD n.val).toNat = true := by decide
theorem hexOf_named (b : List UInt8) : (hexOf b).all (fun c => nameC c.toNat) = true := by
  induction b with
  | nil => rfl
  | cons c r ih =>
    have e : hexOf (c :: r) = [hexD (c.toNat / 16), hexD (c.toNat % 16)] ++ hexOf r := by unfold hexOf; rw [List.flatMap_cons]
    have hc := c.toNat_lt
    rw [e, List.all_append, ih]
    simp only [List.all_cons, List.all_nil, Bool.and_true]
    rw [hexD_named ⟨c.toNat / 16, by omega⟩, hexD_named ⟨c.toNat % 16, by omega⟩]
    rfl
theorem fileN_named (id : List UInt8) (h : id.length = 32) : namedB (fileN id) = true ∧ namedB (fileN id ++ dotNew) = true := by
  have hl := fileN_len id
  have ha := hexOf_named id
  constructor
  · unfold namedB
    rw [decide_eq_true (by omega), Bool.true_and]
    unfold fileN
    rw [List.all_cons, ha]
    rfl
  · unfold namedB
    rw [decide_eq_true (by rw [List.length_append, hl]; simp only [dotNew, List.length_cons, List.length_nil]; omega), Bool.true_and, List.all_append]
    unfold fileN
    rw [List.all_cons, ha]
    rfl
theorem good_one {nm s : List UInt8} {t : List UInt8} (hn : namedB nm = true) (hs : s.length + t.length ≤ 1048576) : goodFs [(nm, s, t)] = true := by
  unfold goodFs goodFrom fileOk goodFrom
  rw [ltB_nil (namedB_ne hn)]
  simp only [List.length_cons, List.length_nil, hn, Bool.true_and, Bool.and_true, Bool.and_eq_true, decide_eq_true_eq]
  omega
theorem lb_one (nm s t : List UInt8) : lbF nm [(nm, s, t)] = 0 := by
  unfold lbF
  rw [List.takeWhile_cons, ltB_irr]
  rfl
theorem has_one (nm s t : List UInt8) : hasF nm [(nm, s, t)] = true := by unfold hasF; simp
theorem save_try (nm s : List UInt8) (h1 : namedB nm = true) (h2 : namedB (nm ++ dotNew) = true) (hs : s.length ≤ 1048576) : saveR [] (-1) nm s = ([(nm, s, [])], -1, 0) := by
  obtain ⟨M, hM⟩ : ∃ M, M = nm ++ dotNew := ⟨_, rfl⟩
  have e0 : save0 [] (-1) nm = ([], -1, 0) := by unfold save0; rfl
  have w1 : wrF M s [] = ([(M, [], s)], 0) := by
    unfold wrF
    rw [hM, if_pos h2, if_neg (by simp), ← hM]
    have hp : wrPre M [] = [(M, [], [])] := rfl
    have hb : lbF M [] = 0 := rfl
    rw [hp, hb]
    simp only [List.getD_cons_zero, List.length_nil, Nat.zero_add]
    rw [if_pos hs]
    rfl
  have e1 : save1 [] (-1) nm s = ([(M, [], s)], -1, 0) := by
    unfold save1
    rw [e0, ← hM]
    simp only [if_true]
    unfold stepR
    rw [w1]
    rfl
  have g1 : goodFs [(M, [], s)] = true := good_one (by rw [hM]; exact h2) (by simpa using hs)
  have s1 : syF M [(M, [], s)] = ([(M, s, [])], 0) := by
    unfold syF
    rw [if_pos (has_one _ _ _), lb_one]
    rfl
  have e2 : save2 [] (-1) nm s = ([(M, s, [])], -1, 0) := by
    unfold save2
    rw [e1, ← hM]
    simp only [if_true]
    unfold stepR
    rw [s1, g1]
    rfl
  have g2 : goodFs [(M, s, [])] = true := good_one (by rw [hM]; exact h2) (by simpa using hs)
  have r1 : rnF M nm [(M, s, [])] = ([(nm, s, [])], 0) := by
    unfold rnF
    rw [if_pos h1, if_pos (has_one _ _ _), lb_one]
    rfl
  have e3 : save3 [] (-1) nm s = ([(nm, s, [])], -1, 0) := by
    unfold save3
    rw [e2, ← hM]
    simp only [if_true]
    unfold stepR
    rw [r1, g2]
    rfl
  unfold saveR
  rw [if_pos (by decide), h1, h2, e3]
  rfl
theorem getO_one (id s : List UInt8) (h : sha s = id) (hs : s.length ≤ 1048576) : getO [(fileN id, s, [])] id = (s, 0) := by
  have hl : id.length = 32 := by rw [← h]; exact sha_len s
  have hr : readR [(fileN id, s, [])] (fileN id) = (s, 0) := by
    unfold readR
    rw [if_pos (good_one (fileN_named id hl).1 (by simpa using hs)), if_pos (has_one _ _ _), lb_one]
    simp
  unfold getO
  rw [if_pos hl, hr, if_pos rfl, if_pos h]
theorem obD_lenT {s : List UInt8} (h : (obD s).2 = 0) : s.length ≤ 8192 := by
  unfold obD at h
  split at h
  · cases h
  · omega
theorem putO_try (s : List UInt8) (hd : (obD s).2 = 0) : putO [] (-1) s = ([(fileN (sha s), s, [])], -1, sha s, 0) := by
  have hl := obD_lenT hd
  have hn := fileN_named (sha s) (sha_len s)
  have hr : readR [] (fileN (sha s)) = ([], 7) := rfl
  have hg : (getO [] (sha s)).2 = 7 := by
    unfold getO
    rw [if_pos (sha_len s), hr]
    rfl
  have hv := save_try (fileN (sha s)) s hn.1 hn.2 (by omega)
  unfold putO
  rw [if_pos hd, if_neg (by rw [hg]; decide), hv, if_pos rfl]

def stoX : List UInt8 := [1, 1, 97]
theorem stoX_dec : (obD stoX).2 = 0 := by decide
set_option maxHeartbeats 4000000 in
theorem stores_any (w : World) (hT : TabK w) : Calls Tryz.prog 19 #[] w fun e w' => e = .returned (.bool true) ∧ Gr w w' := by
  have HP : Sec (Calls Tryz.prog 62 #[.agg #[.slice none 0 0, .int .i64 (-1)], .string (bs [1, 1, 97])] w fun e w' => ∃ A' cap', e = .returned (.tuple #[.agg #[.slice A' 1 cap', .int .i64 (-1)], .string (bs (sha stoX)), .int .i64 0]) ∧ FRow w' A' 1 [(fileN (sha stoX), stoX, [])] ∧ Gr w w') := sec (by
    refine (stoPut_any [] stoX none 0 0 (-1) w (Row.nil _ _ _) (Nat.le_refl _) (fun _ => ⟨rfl, rfl⟩) ⟨by simp, by simp⟩ (by omega) (by decide) hT).mono ?_
    rintro e w' ⟨A', n', cap', rfl, g, _, ha⟩
    rw [putO_try stoX stoX_dec] at ha ⊢
    simp only at ha ⊢
    rcases ha with ⟨_, _, _, h⟩ | h
    · cases h
    · have hr : FRow w' A' n' [(fileN (sha stoX), stoX, [])] := Row.own h
      have hn := hr.len
      simp only [List.length_cons, List.length_nil] at hn
      subst hn
      exact ⟨A', cap', rfl, hr, g⟩)
  have HGt : Sec (∀ A' cap' W, FRow W A' 1 [(fileN (sha stoX), stoX, [])] → Gr w W → Calls Tryz.prog 63 #[.agg #[.slice A' 1 cap', .int .i64 (-1)], .string (bs (sha stoX))] W fun e w' => e = .returned (.tuple #[.string (bs stoX), .int .i64 0]) ∧ Gr W w') := sec (fun A' cap' W h g => by
    have := stoGet_any [(fileN (sha stoX), stoX, [])] (sha stoX) A' 1 cap' (-1) W (by omega) h (by
      intro f hf
      simp only [List.mem_singleton] at hf
      subst hf
      simp only [fileN_len, sha_len, List.length_nil]
      decide) (by rw [sha_len]; omega) (hT.gr g)
    rw [getO_one (sha stoX) stoX rfl (by decide)] at this
    exact this)
  obtain ⟨D, hD⟩ : ∃ D, D = sha stoX := ⟨_, rfl⟩
  obtain ⟨F, hF⟩ : ∃ F, F = [(fileN D, stoX, ([] : List UInt8))] := ⟨_, rfl⟩
  rw [← hD] at HP HGt
  rw [← hF] at HP HGt
  clear hD hF
  go_enter Tryz.func19, Tryz.ntmps19
  go_wp2_with (first
    | (go_at_call 62; (with_reducible refine Calls.mono HP.out ?_); rintro e w2 ⟨A1, c1, rfl, r2, g2⟩; have R2 := r2.gr ((Gr.refl w2).alloc (.cells #[.slice A1 1 c1, .int .i64 (-1)] 24)); have G2 := g2.alloc (.cells #[.slice A1 1 c1, .int .i64 (-1)] 24))
    | (go_at_call 63; (with_reducible refine Calls.mono (HGt.out _ _ _ R2 G2) ?_); rintro e w3 ⟨rfl, g3⟩; have G3 := G2.trans g3))
  go_ret
  exact ⟨rfl, G3⟩
end Go.Proofs.YtoamnifnfkgbiaaGreatDoor

namespace Go.Proofs.YtoamnifnfkgbiaaGreatDoor
set_option maxRecDepth 100000
open Go.RowKit
set_option linter.unusedVariables false
/-- what tells objects: a text and an error -/
abbrev Tl := List UInt8 → List UInt8 × Int
def okT (G : Tl) (x : List UInt8) : Prop := (G x).2 = 0 ∧ (obD (G x).1).2 = 0
def lkT (G : Tl) (x : List UInt8) : List (List UInt8) := obLk (obD (G x).1).1
/-- what is led to -/
inductive Led (G : Tl) (ids : List (List UInt8)) : List UInt8 → Prop
  | base {x : List UInt8} : x ∈ ids → Led G ids x
  | link {x y : List UInt8} : Led G ids x → okT G x → y ∈ lkT G x → Led G ids y
def GR (G : Tl) (ids : List (List UInt8)) (x : List UInt8) : Prop := Led G ids x ∧ okT G x
def Big (G : Tl) (ids : List (List UInt8)) : Prop := ∃ S : List (List UInt8), S.Nodup ∧ 400 < S.length ∧ ∀ x ∈ S, GR G ids x
def Lacks (G : Tl) (ids : List (List UInt8)) : Prop := ∃ x, Led G ids x ∧ (G x).2 ≠ 0
def Wrong (G : Tl) (ids : List (List UInt8)) : Prop := ∃ x, Led G ids x ∧ (G x).2 = 0 ∧ (obD (G x).1).2 ≠ 0
abbrev Rising (L : List (List UInt8)) : Prop := L.Pairwise (fun a b => ltB a b = true)
/-- P7.4 -/
def RcSpec (G : Tl) (ids : List (List UInt8)) (r : List (List UInt8) × Int) : Prop :=
  (Big G ids ∧ r = ([], 6)) ∨ (¬ Big G ids ∧ Lacks G ids ∧ r = ([], 7)) ∨ (¬ Big G ids ∧ ¬ Lacks G ids ∧ Wrong G ids ∧ r = ([], 2)) ∨
    (¬ Big G ids ∧ ¬ Lacks G ids ∧ ¬ Wrong G ids ∧ r.2 = 0 ∧ Rising r.1 ∧ ∀ x, x ∈ r.1 ↔ GR G ids x)
theorem rising_ext : ∀ (L M : List (List UInt8)), Rising L → Rising M → (∀ x, x ∈ L ↔ x ∈ M) → L = M
  | [], [], _, _, _ => rfl
  | [], b :: M, _, _, h => by have := (h b).2 (by simp); simp at this
  | a :: L, [], _, _, h => by have := (h a).1 (by simp); simp at this
  | a :: L, b :: M, hL, hM, h => by
    rw [Rising, List.pairwise_cons] at hL hM
    have e : a = b := by
      rcases List.mem_cons.1 ((h a).1 (by simp)) with e | h1
      · exact e
      · rcases List.mem_cons.1 ((h b).2 (by simp)) with e | h2
        · exact e.symm
        · have h3 := hM.1 a h1
          have h4 := hL.1 b h2
          have h5 := ltB_trans _ _ _ h3 h4
          rw [ltB_irr] at h5
          cases h5
    subst e
    rw [rising_ext L M hL.2 hM.2]
    intro x
    constructor
    · intro hx
      rcases List.mem_cons.1 ((h x).1 (List.mem_cons_of_mem _ hx)) with e | h1
      · subst e
        have := hL.1 x hx
        rw [ltB_irr] at this; cases this
      · exact h1
    · intro hx
      rcases List.mem_cons.1 ((h x).2 (List.mem_cons_of_mem _ hx)) with e | h1
      · subst e
        have := hM.1 x hx
        rw [ltB_irr] at this; cases this
      · exact h1
theorem rcSpec_uniq {G : Tl} {ids : List (List UInt8)} {r r' : List (List UInt8) × Int} (h : RcSpec G ids r) (h' : RcSpec G ids r') : r = r' := by
  rcases h with ⟨a, e⟩ | ⟨a, b, e⟩ | ⟨a, b, c, e⟩ | ⟨a, b, c, e, f, g⟩ <;> rcases h' with ⟨a', e'⟩ | ⟨a', b', e'⟩ | ⟨a', b', c', e'⟩ | ⟨a', b', c', e', f', g'⟩ <;>
    first
    | (rw [e, e']; done)
    | (exact absurd a a')
    | (exact absurd a' a)
    | (exact absurd b b')
    | (exact absurd b' b)
    | (exact absurd c c')
    | (exact absurd c' c)
    | skip
  obtain ⟨L, x⟩ := r
  obtain ⟨L', x'⟩ := r'
  simp only at e e' f f' g g'
  rw [e, e', rising_ext L L' f f' (fun x => (g x).trans (g' x).symm)]
theorem nodup_sub : ∀ (S T : List (List UInt8)), S.Nodup → (∀ x ∈ S, x ∈ T) → S.length ≤ T.length
  | [], _, _, _ => by simp
  | a :: S, T, hn, h => by
    rw [List.nodup_cons] at hn
    have ha : a ∈ T := h a (by simp)
    have := nodup_sub S (T.erase a) hn.2 (fun x hx => (List.mem_erase_of_ne (fun e => hn.1 (by rw [← e]; exact hx))).2 (h x (List.mem_cons_of_mem _ hx)))
    have hl := List.length_erase_of_mem ha
    have hp : 0 < T.length := List.length_pos_of_mem ha
    simp only [List.length_cons]
    omega
/-- seen, or known to be lacking or wrong -/
def Vis (G : Tl) (S : List (List UInt8)) (lk wr : Bool) (x : List UInt8) : Prop := x ∈ S ∨ ((G x).2 ≠ 0 ∧ lk = true) ∨ ((G x).2 = 0 ∧ (obD (G x).1).2 ≠ 0 ∧ wr = true)
/-- a search under way: S seen, W to come -/
structure Rc (G : Tl) (ids S W : List (List UInt8)) (lk wr : Bool) : Prop where
  nd : S.Nodup
  good : ∀ x ∈ S, GR G ids x
  led : ∀ x ∈ W, Led G ids x
  base : ∀ x ∈ ids, Vis G S lk wr x ∨ x ∈ W
  link : ∀ x ∈ S, ∀ y ∈ lkT G x, Vis G S lk wr y ∨ y ∈ W
  lacks : lk = true → Lacks G ids
  wrong : wr = true → Wrong G ids
section
variable {G : Tl} {ids S W : List (List UInt8)} {lk wr : Bool}
theorem Rc.start (G : Tl) (ids : List (List UInt8)) : Rc G ids [] ids false false :=
  ⟨.nil, by simp, fun x h => .base h, fun x h => .inr h, by simp, by simp, by simp⟩
theorem Vis.mono {S' : List (List UInt8)} {lk' wr' : Bool} {x : List UInt8} (h : Vis G S lk wr x) (hS : ∀ y ∈ S, y ∈ S') (h1 : lk = true → lk' = true) (h2 : wr = true → wr' = true) : Vis G S' lk' wr' x := by
  rcases h with h | ⟨a, b⟩ | ⟨a, b, c⟩
  · exact .inl (hS x h)
  · exact .inr (.inl ⟨a, h1 b⟩)
  · exact .inr (.inr ⟨a, b, h2 c⟩)
/-- what is to come, in another order -/
theorem Rc.perm {W' : List (List UInt8)} (h : Rc G ids S W lk wr) (hW : ∀ x, x ∈ W ↔ x ∈ W') : Rc G ids S W' lk wr :=
  ⟨h.nd, h.good, fun x hx => h.led x ((hW x).2 hx), fun x hx => (h.base x hx).imp id (hW x).1, fun x hx y hy => (h.link x hx y hy).imp id (hW y).1, h.lacks, h.wrong⟩
theorem Rc.pop {x : List UInt8} (h : Rc G ids S (x :: W) lk wr) (hv : Vis G S lk wr x) : Rc G ids S W lk wr :=
  ⟨h.nd, h.good, fun y hy => h.led y (List.mem_cons_of_mem _ hy),
   fun y hy => by
    rcases h.base y hy with h1 | h1
    · exact .inl h1
    · rcases List.mem_cons.1 h1 with e | h1
      · subst e; exact .inl hv
      · exact .inr h1,
   fun z hz y hy => by
    rcases h.link z hz y hy with h1 | h1
    · exact .inl h1
    · rcases List.mem_cons.1 h1 with e | h1
      · subst e; exact .inl hv
      · exact .inr h1, h.lacks, h.wrong⟩
theorem Rc.flags {lk' wr' : Bool} (h : Rc G ids S W lk wr) (h1 : lk = true → lk' = true) (h2 : wr = true → wr' = true) (k1 : lk' = true → Lacks G ids) (k2 : wr' = true → Wrong G ids) : Rc G ids S W lk' wr' :=
  ⟨h.nd, h.good, h.led, fun x hx => (h.base x hx).imp (fun v => v.mono (fun y hy => hy) h1 h2) id, fun x hx y hy => (h.link x hx y hy).imp (fun v => v.mono (fun y hy => hy) h1 h2) id, k1, k2⟩
theorem Rc.lack {x : List UInt8} (h : Rc G ids S (x :: W) lk wr) (hx : (G x).2 ≠ 0) : Rc G ids S W true wr :=
  (h.flags (lk' := true) (wr' := wr) (fun _ => rfl) id (fun _ => ⟨x, h.led x (by simp), hx⟩) h.wrong).pop (.inr (.inl ⟨hx, rfl⟩))
theorem Rc.wrongd {x : List UInt8} (h : Rc G ids S (x :: W) lk wr) (hx : (G x).2 = 0) (hy : (obD (G x).1).2 ≠ 0) : Rc G ids S W lk true :=
  (h.flags (lk' := lk) (wr' := true) id (fun _ => rfl) h.lacks (fun _ => ⟨x, h.led x (by simp), hx, hy⟩)).pop (.inr (.inr ⟨hx, hy, rfl⟩))
theorem Rc.seen {x : List UInt8} (h : Rc G ids S (x :: W) lk wr) (hn : x ∉ S) (hx : okT G x) : Rc G ids (S ++ [x]) (W ++ lkT G x) lk wr := by
  have hl : Led G ids x := h.led x (by simp)
  have hS : ∀ y ∈ S, y ∈ S ++ [x] := fun y hy => List.mem_append_left _ hy
  refine ⟨?_, fun y hy => ?_, fun y hy => ?_, fun y hy => ?_, fun z hz y hy => ?_, h.lacks, h.wrong⟩
  · rw [List.nodup_append]
    refine ⟨h.nd, by simp, fun a ha b hb => ?_⟩
    simp only [List.mem_singleton] at hb
    subst hb
    rintro rfl
    exact hn ha
  · rcases List.mem_append.1 hy with hy | hy
    · exact h.good y hy
    · simp only [List.mem_singleton] at hy; subst hy; exact ⟨hl, hx⟩
  · rcases List.mem_append.1 hy with hy | hy
    · exact h.led y (List.mem_cons_of_mem _ hy)
    · exact .link hl hx hy
  · rcases h.base y hy with v | v
    · exact .inl (v.mono hS id id)
    · rcases List.mem_cons.1 v with e | v
      · subst e; exact .inl (.inl (by simp))
      · exact .inr (List.mem_append_left _ v)
  · rcases List.mem_append.1 hz with hz | hz
    · rcases h.link z hz y hy with v | v
      · exact .inl (v.mono hS id id)
      · rcases List.mem_cons.1 v with e | v
        · subst e; exact .inl (.inl (by simp))
        · exact .inr (List.mem_append_left _ v)
    · simp only [List.mem_singleton] at hz
      subst hz
      exact .inr (List.mem_append_right _ hy)
theorem Rc.big (h : Rc G ids S W lk wr) (hl : 400 < S.length) : Big G ids := ⟨S, h.nd, hl, h.good⟩
theorem Rc.vis (h : Rc G ids S [] lk wr) {x : List UInt8} (hx : Led G ids x) : Vis G S lk wr x := by
  induction hx with
  | base h1 => rcases h.base _ h1 with v | v; exact v; simp at v
  | @link a b _ hok hy ih =>
    have hS : a ∈ S := by
      rcases ih with v | ⟨a, _⟩ | ⟨_, a, _⟩
      · exact v
      · exact absurd hok.1 a
      · exact absurd hok.2 a
    rcases h.link _ hS _ hy with v | v
    · exact v
    · simp at v
theorem Rc.done (h : Rc G ids S [] lk wr) (hl : S.length ≤ 400) :
    ¬ Big G ids ∧ (lk = true ↔ Lacks G ids) ∧ (wr = true ↔ Wrong G ids) ∧ ∀ x, x ∈ S ↔ GR G ids x := by
  have hG : ∀ x, x ∈ S ↔ GR G ids x := fun x => ⟨h.good x, fun hx => by
    rcases h.vis hx.1 with v | ⟨a, _⟩ | ⟨_, a, _⟩
    · exact v
    · exact absurd hx.2.1 a
    · exact absurd hx.2.2 a⟩
  refine ⟨fun ⟨T, h1, h2, h3⟩ => ?_, ⟨h.lacks, fun ⟨x, h1, h2⟩ => ?_⟩, ⟨h.wrong, fun ⟨x, h1, h2, h3⟩ => ?_⟩, hG⟩
  · have := nodup_sub T S h1 (fun x hx => (hG x).2 (h3 x hx))
    omega
  · rcases h.vis h1 with v | ⟨_, b⟩ | ⟨a, _⟩
    · exact absurd (h.good x v).2.1 h2
    · exact b
    · exact absurd a h2
  · rcases h.vis h1 with v | ⟨a, _⟩ | ⟨_, _, c⟩
    · exact absurd (h.good x v).2.2 h3
    · exact absurd h2 a
    · exact c
/-- what is said at the end -/
theorem Rc.spec (h : Rc G ids S [] lk wr) (hl : S.length ≤ 400) {L : List (List UInt8)} (hr : Rising L) (hm : ∀ x, x ∈ L ↔ x ∈ S) :
    RcSpec G ids (if lk = true then ([], 7) else if wr = true then ([], 2) else (L, 0)) := by
  obtain ⟨h1, h2, h3, h4⟩ := h.done hl
  cases lk with
  | true => exact .inr (.inl ⟨h1, h2.1 rfl, rfl⟩)
  | false =>
    have n2 : ¬ Lacks G ids := fun k => by have := h2.2 k; cases this
    cases wr with
    | true => exact .inr (.inr (.inl ⟨h1, n2, h3.1 rfl, rfl⟩))
    | false =>
      have n3 : ¬ Wrong G ids := fun k => by have := h3.2 k; cases this
      exact .inr (.inr (.inr ⟨h1, n2, n3, rfl, hr, fun x => (hm x).trans (h4 x)⟩))
end
theorem obD_lenR {s : List UInt8} (h : (obD s).2 = 0) : s.length ≤ 8192 := by
  unfold obD at h
  split at h
  · cases h
  · omega
theorem lkT_le {G : Tl} {x : List UInt8} (h : okT G x) : (lkT G x).length ≤ 64 ∧ ∀ y ∈ lkT G x, y.length ≤ 32 := by
  have hb := obD_lenR h.2
  have ok := (obD_sz (G x).1 (by omega)).2 h.2
  unfold lkT obLk
  split
  · refine ⟨by rw [List.length_map]; exact ok.ents, fun y hy => ?_⟩
    obtain ⟨e, he, rfl⟩ := List.mem_map.1 hy
    have := (ok.each e he).2
    omega
  · split
    · refine ⟨by simp only [List.length_cons]; have := ok.pars; omega, fun y hy => ?_⟩
      rcases List.mem_cons.1 hy with rfl | hy
      · exact ok.tree
      · have := ok.peach y hy; omega
    · split
      · refine ⟨by simp, fun y hy => ?_⟩
        simp only [List.mem_singleton] at hy
        subst hy
        exact ok.target
      · simp
/-! ### P7.5: what descends -/
/-- the commits ahead of one -/
def nxT (G : Tl) (x : List UInt8) : List (List UInt8) := if (G x).2 = 0 ∧ (obD (G x).1).2 = 0 ∧ (obD (G x).1).1.kind = 3 then (obD (G x).1).1.pars else []
/-- a search from the front: had, to come, the answer -/
inductive Ds (G : Tl) (frm : List UInt8) : List (List UInt8) → List (List UInt8) → Bool → Prop
  | nil {S : List (List UInt8)} : Ds G frm S [] false
  | full {S W : List (List UInt8)} : 400 ≤ S.length → Ds G frm S W false
  | hit {S W : List (List UInt8)} : S.length < 400 → Ds G frm S (frm :: W) true
  | skip {S W : List (List UInt8)} {x : List UInt8} {b : Bool} : S.length < 400 → x ≠ frm → x ∈ S → Ds G frm S W b → Ds G frm S (x :: W) b
  | more {S W : List (List UInt8)} {x : List UInt8} {b : Bool} : S.length < 400 → x ≠ frm → x ∉ S → Ds G frm (S ++ [x]) (W ++ nxT G x) b → Ds G frm S (x :: W) b
theorem ds_uniq {G : Tl} {frm : List UInt8} {S W : List (List UInt8)} {b b' : Bool} (h : Ds G frm S W b) : Ds G frm S W b' → b = b' := by
  induction h with
  | nil => intro h'; cases h' <;> rfl
  | full hl => intro h'; cases h' <;> first | rfl | omega
  | hit hl =>
    intro h'
    cases h' with
    | full h1 => omega
    | hit _ => rfl
    | skip _ h1 _ _ => exact absurd rfl h1
    | more _ h1 _ _ => exact absurd rfl h1
  | skip hl hx hm _ ih =>
    intro h'
    cases h' with
    | full h1 => omega
    | hit _ => exact absurd rfl hx
    | skip _ _ _ h1 => exact ih h1
    | more _ _ h1 _ => exact absurd hm h1
  | more hl hx hm _ ih =>
    intro h'
    cases h' with
    | full h1 => omega
    | hit _ => exact absurd rfl hx
    | skip _ _ h1 _ => exact absurd h1 hm
    | more _ _ _ h1 => exact ih h1
theorem nxT_le {G : Tl} {x : List UInt8} : (nxT G x).length ≤ 4 ∧ ∀ y ∈ nxT G x, y.length ≤ 32 := by
  unfold nxT
  split
  · rename_i h
    have hb := obD_lenR h.2.1
    have ok := (obD_sz (G x).1 (by omega)).2 h.2.1
    exact ⟨ok.pars, fun y hy => by have := ok.peach y hy; omega⟩
  · simp
end Go.Proofs.YtoamnifnfkgbiaaGreatDoor

namespace Go.Proofs.YtoamnifnfkgbiaaGreatDoor
set_option maxRecDepth 100000
open Go.RowKit
set_option linter.unusedVariables false
/-- what is seen, as a map -/
def seenF (S : List (List UInt8)) : List UInt8 → Option Bool := fun y => if y ∈ S then some true else none
theorem seenF_nil : seenF [] = fun _ => none := by funext y; simp [seenF]
theorem seenF_some (S : List (List UInt8)) (x : List UInt8) : (seenF S x).isSome = decide (x ∈ S) := by
  unfold seenF
  by_cases h : x ∈ S
  · rw [if_pos h, decide_eq_true h]; rfl
  · rw [if_neg h, decide_eq_false h]; rfl
theorem seenF_get (S : List (List UInt8)) (x : List UInt8) : (seenF S x).getD false = decide (x ∈ S) := by
  unfold seenF
  by_cases h : x ∈ S
  · rw [if_pos h, decide_eq_true h]; rfl
  · rw [if_neg h, decide_eq_false h]; rfl
theorem seenF_put (S : List (List UInt8)) (x : List UInt8) : mset (seenF S) x true = seenF (S ++ [x]) := by
  funext y
  unfold mset seenF
  by_cases h : y = x
  · subst h; rw [if_pos rfl, if_pos (by simp)]
  · rw [if_neg h]
    by_cases h2 : y ∈ S
    · rw [if_pos h2, if_pos (List.mem_append_left _ h2)]
    · rw [if_neg h2, if_neg (fun k => by rcases List.mem_append.1 k with k | k; exact h2 k; simp at k; exact h k)]
theorem seenF_cnt {S : List (List UInt8)} {x : List UInt8} (h : x ∉ S) : mcnt (seenF S) x S.length = (S ++ [x]).length := by
  unfold mcnt
  rw [seenF_some, decide_eq_false h, List.length_append]
  rfl
theorem ltB_lt : ∀ a b : List UInt8, ltB a b = decide (a < b)
  | [], [] => by rw [ltB_irr]; exact (decide_eq_false (List.lt_irrefl _)).symm
  | [], b :: y => by rw [ltB_nil (by simp)]; exact (decide_eq_true (by simp)).symm
  | a :: x, [] => by
    have : ltB (a :: x) [] = false := rfl
    rw [this]; exact (decide_eq_false (by simp)).symm
  | a :: x, b :: y => by
    rw [ltB_cons, ltB_lt x y, Bool.eq_iff_iff]
    simp only [Bool.or_eq_true, Bool.and_eq_true, decide_eq_true_eq, beq_iff_eq, List.cons_lt_cons_iff]
theorem ltB_of_le {a b : List UInt8} (h : a ≤ b) (hne : a ≠ b) : ltB a b = true := by
  cases h1 : ltB a b with
  | true => rfl
  | false =>
    cases h2 : ltB b a with
    | false => exact absurd (ltB_tri _ _ h1 h2) hne
    | true =>
      rw [ltB_lt, decide_eq_true_eq] at h2
      exact absurd h2 h
theorem le_of_ltB {a b : List UInt8} (h : ltB b a = false) : a ≤ b := by
  intro h2
  rw [ltB_lt] at h
  exact absurd h2 (of_decide_eq_false h)
theorem rising_sort {L : List (List UInt8)} (h : L.Nodup) : Rising (L.mergeSort fun x y => decide (x ≤ y)) ∧ (∀ x, x ∈ (L.mergeSort fun x y => decide (x ≤ y)) ↔ x ∈ L) ∧ (L.mergeSort fun x y => decide (x ≤ y)).length = L.length := by
  have hp : (L.mergeSort fun x y => decide (x ≤ y)).Perm L := List.mergeSort_perm _ _
  have hs : (L.mergeSort fun x y => decide (x ≤ y)).Pairwise (fun a b => decide (a ≤ b) = true) := List.pairwise_mergeSort
    (fun a b c h1 h2 => by
      rw [decide_eq_true_eq] at h1 h2 ⊢
      refine le_of_ltB ?_
      cases hc : ltB c a with
      | false => rfl
      | true =>
        by_cases e : a = b
        · subst e
          rw [ltB_lt, decide_eq_true_eq] at hc
          exact absurd hc h2
        · have := ltB_trans _ _ _ hc (ltB_of_le h1 e)
          rw [ltB_lt, decide_eq_true_eq] at this
          exact absurd this h2)
    (fun a b => by
      cases h1 : ltB b a with
      | false => rw [decide_eq_true (le_of_ltB h1)]; rfl
      | true =>
        rw [decide_eq_true (p := b ≤ a) (le_of_ltB (ltB_asym h1)), Bool.or_true]) L
  have hn : (L.mergeSort fun x y => decide (x ≤ y)).Nodup := hp.nodup_iff.2 h
  refine ⟨?_, fun x => hp.mem_iff, hp.length_eq⟩
  refine List.Pairwise.imp (fun {a b} k => ?_) (List.Pairwise.and hs hn)
  exact ltB_of_le (of_decide_eq_true k.1) k.2
theorem Rising.nodup {L : List (List UInt8)} (h : Rising L) : L.Nodup := List.Pairwise.imp (fun {a b} k e => by subst e; rw [ltB_irr] at k; cases k) h
/-- a text put into a rising list at its place -/
theorem rising_ins {L : List (List UInt8)} (h : Rising L) {x : List UInt8} {k : Nat} (hk : k ≤ L.length) (h1 : ∀ m (hm : m < L.length), m < k → ltB L[m] x = true) (h2 : ∀ hm : k < L.length, ltB L[k] x = false) (hx : x ∉ L) :
    Rising (L.take k ++ x :: L.drop k) ∧ (L.take k ++ x :: L.drop k).length = L.length + 1 ∧ ∀ y, y ∈ L.take k ++ x :: L.drop k ↔ (y ∈ L ∨ y = x) := by
  have hlow : ∀ a ∈ L.take k, ltB a x = true := fun a ha => by
    obtain ⟨i, hi, rfl⟩ := List.mem_iff_getElem.1 ha
    rw [List.length_take] at hi
    rw [List.getElem_take]
    exact h1 i (by omega) (by omega)
  have hup : ∀ b ∈ L.drop k, ltB x b = true := fun b hb => by
    obtain ⟨i, hi, rfl⟩ := List.mem_iff_getElem.1 hb
    rw [List.length_drop] at hi
    rw [List.getElem_drop]
    have hkl : k < L.length := by omega
    have hxk : ltB x L[k] = true := by
      cases hc : ltB x L[k] with
      | true => rfl
      | false => exact absurd (ltB_tri _ _ hc (h2 hkl)) (fun e => hx (by rw [e]; exact List.getElem_mem hkl))
    cases i with
    | zero => exact hxk
    | succ j => exact ltB_trans _ _ _ hxk (List.pairwise_iff_getElem.1 h k (k + (j + 1)) hkl (by omega) (by omega))
  refine ⟨?_, by rw [List.length_append, List.length_cons, List.length_take, List.length_drop]; omega, fun y => ?_⟩
  · rw [Rising, List.pairwise_append]
    refine ⟨h.sublist (List.take_sublist _ _), ?_, fun a ha b hb => ?_⟩
    · rw [List.pairwise_cons]
      exact ⟨hup, h.sublist (List.drop_sublist _ _)⟩
    · rcases List.mem_cons.1 hb with e | hb
      · rw [e]; exact hlow a ha
      · exact ltB_trans _ _ _ (hlow a ha) (hup b hb)
  · have e := List.take_append_drop k L
    constructor
    · intro hy
      rcases List.mem_append.1 hy with hy | hy
      · exact .inl (List.mem_of_mem_take hy)
      · rcases List.mem_cons.1 hy with hy | hy
        · exact .inr hy
        · exact .inl (List.mem_of_mem_drop hy)
    · rintro (hy | hy)
      · rw [← e] at hy
        rcases List.mem_append.1 hy with hy | hy
        · exact List.mem_append_left _ hy
        · exact List.mem_append_right _ (List.mem_cons_of_mem _ hy)
      · rw [hy]; simp
/-- keys taken out of a map one by one: L is out, the rest is left -/
structure Outs (S L : List (List UInt8)) (left : List UInt8 → Bool) : Prop where
  nd : L.Nodup
  all : ∀ y, y ∈ S ↔ (y ∈ L ∨ (y.length ≤ maxLen ∧ left y = true))
  no : ∀ y ∈ L, left y = false
theorem Outs.start {S : List (List UInt8)} (hS : ∀ x ∈ S, x.length ≤ maxLen) : Outs S [] (fun l => (seenF S l).isSome) :=
  ⟨.nil, fun y => by rw [seenF_some, decide_eq_true_eq]; exact ⟨fun h => .inr ⟨hS y h, h⟩, fun h => by rcases h with h | h; simp at h; exact h.2⟩, by simp⟩
theorem Outs.fresh {S L : List (List UInt8)} {left : List UInt8 → Bool} (h : Outs S L left) {x : List UInt8} (hl : left x = true) : x ∉ L := fun k => by rw [h.no x k] at hl; cases hl
theorem Outs.put {S L L' : List (List UInt8)} {left : List UInt8 → Bool} (h : Outs S L left) {x : List UInt8} (hx : x.length ≤ maxLen) (hl : left x = true) (hn : L'.Nodup) (hm : ∀ y, y ∈ L' ↔ (y ∈ L ∨ y = x)) : Outs S L' (fun y => left y && !(decide (y = x))) := by
  refine ⟨hn, fun y => ?_, fun y hy => ?_⟩
  · rw [h.all y, hm y, Bool.and_eq_true, Bool.not_eq_true', decide_eq_false_iff_not]
    constructor
    · rintro (h1 | h1)
      · exact .inl (.inl h1)
      · by_cases e : y = x
        · exact .inl (.inr e)
        · exact .inr ⟨h1.1, h1.2, e⟩
    · rintro ((h1 | h1) | h1)
      · exact .inl h1
      · subst h1; exact .inr ⟨hx, hl⟩
      · exact .inr ⟨h1.1, h1.2.1⟩
  · rcases (hm y).1 hy with h1 | h1
    · rw [h.no y h1]; rfl
    · subst h1; simp
theorem Outs.done {S L : List (List UInt8)} {left : List UInt8 → Bool} (h : Outs S L left) (hd : ∀ l, l.length ≤ maxLen → left l = false) : ∀ y, y ∈ L ↔ y ∈ S := fun y => by
  rw [h.all y]
  exact ⟨.inl, fun k => by rcases k with k | k; exact k; rw [hd y k.1] at k; cases k.2⟩
theorem Outs.le {S L : List (List UInt8)} {left : List UInt8 → Bool} (h : Outs S L left) : L.length ≤ S.length := nodup_sub L S h.nd (fun x hx => (h.all x).2 (.inl hx))
theorem nodup_push {L : List (List UInt8)} {x : List UInt8} (h : L.Nodup) (hx : x ∉ L) : (L ++ [x]).Nodup ∧ ∀ y, y ∈ L ++ [x] ↔ (y ∈ L ∨ y = x) := by
  refine ⟨?_, fun y => by simp⟩
  rw [List.nodup_append]
  refine ⟨h, by simp, fun a ha b hb => ?_⟩
  simp only [List.mem_singleton] at hb
  subst hb
  rintro rfl
  exact hx ha
end Go.Proofs.YtoamnifnfkgbiaaGreatDoor

namespace Go.Proofs.YtoamnifnfkgbiaaGreatDoor
set_option maxRecDepth 100000
open Go.RowKit
set_option linter.unusedVariables false
set_option maxHeartbeats 2000000 in
theorem cloneS_any (L : List (List UInt8)) (A : Option Addr) (n cap : Nat) (w : World) (hn : n ≤ 1099511627776) (hx : StrRow w A n L) (hA : A = none → n = 0 ∧ cap = 0) :
    Calls Tryz.prog 53 #[.slice A n cap] w fun e w' => ∃ A' cap', e = .returned (.slice A' n cap') ∧ w'.ownsRow w.heap.size 9 1 (.slice A' n cap') n (L.map strV) ∧ Gr w w' := by
  cases A with
  | none =>
    obtain ⟨rfl, rfl⟩ := hA rfl
    have hl := hx.len
    obtain rfl : L = [] := List.eq_nil_of_length_eq_zero hl
    have hq : ∀ w, (eqGuard .eql 31 (.tmp 3) (.const (.slice none 0 0)) (.slice none 0 0) (.slice none 0 0)).run Tryz.prog w = .ok () w := by
      intro w; rfl
    have hz : ∀ w, (binOp .eql 31 (.slice none 0 0) (.slice none 0 0)).run Tryz.prog w = .ok (.bool true) w := fun w => Lib.run_eql_slice_nil w _ _ none 0 0 0 0 Tryz.underlying31
    go_enter Tryz.func53, Tryz.ntmps53
    go_wp2_with fail
    go_ret
    exact ⟨none, 0, rfl, World.ownsRow_nil _ _ _ _, Gr.refl _⟩
  | some ad =>
    have hq : ∀ w, (eqGuard .eql 31 (.tmp 3) (.const (.slice none 0 0)) (.slice (some ad) n cap) (.slice none 0 0)).run Tryz.prog w = .ok () w := by
      intro w; rfl
    have hz : ∀ w, (binOp .eql 31 (.slice (some ad) n cap) (.slice none 0 0)).run Tryz.prog w = .ok (.bool false) w := fun w => Lib.run_eql_slice_nil w _ _ (some ad) n cap 0 0 Tryz.underlying31
    have hb1 : (0 + n) * 16 ≤ 140737488355328 := by omega
    have hb2 : 0 + n ≤ maxLen := by unfold maxLen; omega
    have HX := sec hx
    clear hx
    go_enter Tryz.func53, Tryz.ntmps53
    go_wp2_with (refine wpList_append_row E.str rfl (.tmp 5) (.tmp 6) rfl (B := w.heap.size) (A0 := some ⟨w.heap.size, 0, none⟩) (n0 := 0) (cap0 := 0) (xs := []) rfl (World.ownsRow_lit w #[] 0 (Nat.le_refl _) (by simp) rfl) rfl (Row.gr HX.out ((Gr.refl w).alloc _)) hA (fun v hv => by obtain ⟨l, _, rfl⟩ := List.mem_map.1 hv; rfl) hb1 hb2 (by simp) ?_; intro A' c' w' hown hgn)
    go_ret
    rw [Nat.zero_add, List.nil_append] at hown
    exact ⟨A', c', rfl, hown, Gr.grown ((Gr.refl w).alloc _) hgn (fun k hk => by simp [Value.ownBlock] at hk; omega)⟩

set_option maxHeartbeats 2000000 in
theorem in_any (ss : List (List UInt8)) (s : List UInt8) (A : Option Addr) (n c : Nat) (w : World) (hx : StrRow w A n ss) (hn : n ≤ 140737488355328) :
    Calls Tryz.prog 61 #[.slice A n c, .string (bs s)] w fun e w' => e = .returned (.bool (decide (s ∈ ss))) ∧ Gr w w' := by
  have hl := hx.len
  subst hl
  have HX := sec hx
  obtain ⟨V, hV⟩ : ∃ V, V = decide (s ∈ ss) := ⟨_, rfl⟩
  have HV := sec hV
  rw [← hV]
  clear hx hV
  go_enter Tryz.func61, Tryz.ntmps61
  go_wp2_with fail
  go_loopw [9, 6] (fun iv _ wr => ∃ i : Nat, iv = .int .i64 (i : Int) ∧ i ≤ ss.length ∧ Sec (s ∉ ss.take i) ∧ wr = w)
    (fun iv _ _ => ss.length - (intOf iv).toNat)
  case atStart => exact ⟨0, rfl, by omega, sec (by simp), rfl⟩
  case round =>
    obtain ⟨i, rfl, hi, HA, rfl⟩ := hrel
    by_cases hlt : i < ss.length
    · have hli : (i : Int) < (ss.length : Int) := by omega
      obtain ⟨b, off, rfl, e0⟩ := HX.out.cell hlt
      have HM : Sec (∀ x, x ∈ ss.take (i + 1) ↔ x ∈ ss.take i ∨ x = ss[i]) := sec (fun x => by
        rw [List.take_succ_eq_append_getElem hlt]; simp only [List.mem_append, List.mem_singleton])
      have HIN : Sec (ss[i] ∈ ss) := sec (List.getElem_mem hlt)
      obtain ⟨x, hxx⟩ : ∃ x, x = ss[i] := ⟨_, rfl⟩
      rw [← hxx] at e0 HM HIN
      have HLT := sec hlt
      clear hxx hlt
      by_cases hsx : x = s
      · have hb : (x == s) = true := by rw [hsx, beq_self_eq_true]
        have HIN2 : Sec (s ∈ ss) := sec (by rw [← hsx]; exact HIN.out)
        clear hsx HIN
        go_wp2_with fail
        go_ret
        exact ⟨by rw [HV.out, decide_eq_true HIN2.out]; rfl, Gr.refl _⟩
      · have hb : (x == s) = false := by simpa using hsx
        have HN : Sec (s ∉ ss.take (i + 1)) := sec (fun h => by
          rcases (HM.out s).1 h with h | h
          · exact HA.out h
          · exact hsx h.symm)
        clear hsx
        go_wp2_with fail
        go_roundw
        case rel => exact ⟨i + 1, by go_num, HLT.out, HN, by trivial⟩
        case measure => simp [intOf]; have := HLT.out; omega
    · obtain rfl : i = ss.length := by omega
      have HF : Sec (s ∉ ss) := sec (by have := HA.out; rwa [List.take_length] at this)
      clear hlt
      go_wp2_with fail
      go_ret
      exact ⟨by rw [HV.out, decide_eq_false HF.out]; rfl, Gr.refl _⟩

/-- a closure that tells texts -/
def Tells (g : Nat) (caps : Array Value) (G : Tl) (w0 : World) : Prop :=
  ∀ (W : World) (x : List UInt8), Gr w0 W → x.length ≤ 1099511627776 → Calls Tryz.prog g (#[.string (bs x)] ++ caps) W fun e w' => e = .returned (.tuple #[.string (bs (G x).1), .int .i64 (G x).2]) ∧ Gr W w'
theorem Tells.gr {g : Nat} {caps : Array Value} {G : Tl} {w0 w1 : World} (h : Tells g caps G w0) (k : Gr w0 w1) : Tells g caps G w1 := fun W x hW hx => h W x (k.trans hW) hx
/-- objects by their ids: the last of a name -/
def tlF (L : List (List UInt8)) : List UInt8 → Option (List UInt8) := L.foldl (fun f s => mset f (sha s) s) (fun _ => none)
def tlG (L : List (List UInt8)) : Tl := fun x => match tlF L x with | some s => (s, 0) | none => ([], 7)
theorem tlF_take {L : List (List UInt8)} {i : Nat} (h : i < L.length) : tlF (L.take (i + 1)) = mset (tlF (L.take i)) (sha L[i]) L[i] := by
  unfold tlF
  rw [List.take_succ_eq_append_getElem h, List.foldl_append]
  rfl
theorem tlF_mem : ∀ (L : List (List UInt8)) (f : List UInt8 → Option (List UInt8)) {x s : List UInt8}, L.foldl (fun f s => mset f (sha s) s) f x = some s → s ∈ L ∨ f x = some s
  | [], f, x, s, h => .inr h
  | a :: L, f, x, s, h => by
    rcases tlF_mem L _ h with h1 | h1
    · exact .inl (List.mem_cons_of_mem _ h1)
    · simp only [mset] at h1
      split at h1
      · injection h1 with h1; subst h1; exact .inl (by simp)
      · exact .inr h1
theorem tlG_le {L : List (List UInt8)} {m : Nat} (h : ∀ s ∈ L, s.length ≤ m) (x : List UInt8) : (tlG L x).1.length ≤ m := by
  unfold tlG
  split
  · rename_i s hs
    rcases tlF_mem L _ hs with h1 | h1
    · exact h s h1
    · cases h1
  · simp
theorem MT : MapE 96 9 9 Lit.string (fun x => .string (bs x)) (fun x => x.length ≤ maxLen) [] :=
  mapE_str Tryz.underlying96 Tryz.underlying9 Tryz.underlying9 (fun w => by kernel_rfl)

set_option maxHeartbeats 2000000 in
theorem tells1_any (q b c : Nat) (f : List UInt8 → Option (List UInt8)) (x : List UInt8) (w : World) (hq : w.cell? ⟨q, 0, none⟩ = some (.map (some b))) (hm : MapAt 9 9 Lit.string w b c f) (hx : x.length ≤ 1099511627776) :
    Calls Tryz.prog 58 #[.string (bs x), .pointer (some ⟨q, 0, none⟩)] w fun e w' => e = .returned (.tuple #[.string (bs (match f x with | some s => (s, (0 : Int)) | none => ([], 7)).1), .int .i64 (match f x with | some s => (s, (0 : Int)) | none => ([], 7)).2]) ∧ Gr w w' := by
  have hxm : x.length ≤ maxLen := by unfold maxLen; omega
  have HM := sec hm
  clear hm
  cases hf : f x with
  | none =>
    have h1 : (f x).getD [] = [] := by rw [hf]; rfl
    have h2 : (f x).isSome = false := by rw [hf]; rfl
    clear hf
    go_enter Tryz.func58, Tryz.ntmps58
    go_wp2_with (refine wpList_look2 MT rfl (.tmp 8) (.tmp 9) rfl rfl HM.out rfl hxm h1 h2 ?_)
    go_ret2
    exact ⟨rfl, Gr.refl _⟩
  | some s =>
    have h1 : (f x).getD [] = s := by rw [hf]; rfl
    have h2 : (f x).isSome = true := by rw [hf]; rfl
    clear hf
    go_enter Tryz.func58, Tryz.ntmps58
    go_wp2_with (refine wpList_look2 MT rfl (.tmp 8) (.tmp 9) rfl rfl HM.out rfl hxm h1 h2 ?_)
    go_ret2
    exact ⟨rfl, Gr.refl _⟩

end Go.Proofs.YtoamnifnfkgbiaaGreatDoor

namespace Go.Proofs.YtoamnifnfkgbiaaGreatDoor
set_option maxRecDepth 100000
open Go.RowKit
set_option linter.unusedVariables false
/-- a slice of one-cell elements, its block not older than B (or without room) -/
structure Win (w : World) (B : Nat) (A : Option Addr) (n cap : Nat) (xs : List Value) : Prop where
  len : xs.length = n
  le : n ≤ cap
  max : cap ≤ maxLen
  lies : (A = none ∧ cap = 0) ∨ ∃ g off, A = some ⟨g, off, none⟩ ∧ (0 < cap → B ≤ g ∧ g < w.heap.size) ∧ (∀ j v, xs[j]? = some v → w.cell? ⟨g, off + j, none⟩ = some v) ∧
    (∀ j, j < cap → (w.cell? ⟨g, off + j, none⟩).isSome = true ∧ w.frozen? ⟨g, off + j, none⟩ = false)
section
variable {w w' : World} {B n cap : Nat} {A : Option Addr} {xs : List Value}
theorem Win.nil (w : World) (B : Nat) : Win w B none 0 0 [] := ⟨rfl, Nat.le_refl _, by unfold maxLen; omega, .inl ⟨rfl, rfl⟩⟩
theorem Win.row (h : Win w B A n cap xs) : Row w 1 A n xs := by
  refine ⟨by rw [h.len, Nat.mul_one], fun hn => ?_⟩
  rcases h.lies with ⟨_, h0⟩ | ⟨g, off, e, _, hc, _⟩
  · have := h.le; omega
  · exact ⟨g, off, e, hc⟩
theorem Win.own {e : TypeId} (h : w.ownsRow B e 1 (.slice A n cap) n xs) : Win w B A n cap xs := by
  have hl : xs.length = n := by have := h.1; rwa [Nat.mul_one] at this
  rcases h.2 with ⟨hv, h0⟩ | ⟨g, cap', cur, hv, hb, hg, hnc, hcm, hcs, ht⟩
  · injection hv with hA hn hc
    subst hA hn hc
    exact ⟨hl, Nat.le_refl _, by unfold maxLen; omega, .inl ⟨rfl, rfl⟩⟩
  · injection hv with hA hn hc
    subst hA hc
    rw [Nat.mul_one] at hcs
    refine ⟨hl, hnc, hcm, .inr ⟨g, 0, rfl, fun _ => ⟨hb, (h.lt g rfl).2⟩, fun j v hv => ?_, fun j hj => ?_⟩⟩
    · have := h.cells (g := g) rfl j v hv
      rw [add_zero_block] at this
      rw [Nat.zero_add]; exact this
    · have hb : Blk w g e cur := hg
      rw [Nat.zero_add, hb.cell, hb.frozen]
      exact ⟨by rw [Array.getElem?_eq_getElem (by omega)]; rfl, rfl⟩
theorem Win.gr (h : Win w B A n cap xs) (g : Gr w w') : Win w' B A n cap xs := by
  refine ⟨h.len, h.le, h.max, ?_⟩
  rcases h.lies with h0 | ⟨b, off, e, h1, h2, h3⟩
  · exact .inl h0
  · refine .inr ⟨b, off, e, fun hc => ⟨(h1 hc).1, Nat.lt_of_lt_of_le (h1 hc).2 g.size⟩, fun j v hv => ?_, fun j hj => ?_⟩
    · exact (g.below.cell (p := ⟨b, off + j, none⟩) (World.block_lt_of_cell? w _ (h2 j v hv))).trans (h2 j v hv)
    · have hb := (h1 (by omega)).2
      rw [g.below.cell (p := ⟨b, off + j, none⟩) hb, g.below.frozen (p := ⟨b, off + j, none⟩) hb]
      exact h3 j hj
/-- another block is written -/
theorem Win.apart {row : Option Nat} (h : Win w B A n cap xs) (k : w.grownBy w' row) (hr : ∀ b, row = some b → b < B) : Win w' B A n cap xs := by
  refine ⟨h.len, h.le, h.max, ?_⟩
  rcases h.lies with h0 | ⟨b, off, e, h1, h2, h3⟩
  · exact .inl h0
  · have hx : 0 < cap → w'.heap[b]? = w.heap[b]? := fun hc => k.block b (h1 hc).2 (fun e => by have := hr b e.symm; have := (h1 hc).1; omega)
    have hcell : 0 < cap → ∀ j, w'.cell? ⟨b, j, none⟩ = w.cell? ⟨b, j, none⟩ := fun hc j => by simp [World.cell?, hx hc]
    have hfro : 0 < cap → ∀ j, w'.frozen? ⟨b, j, none⟩ = w.frozen? ⟨b, j, none⟩ := fun hc j => by simp [World.frozen?, hx hc]
    refine .inr ⟨b, off, e, fun hc => ⟨(h1 hc).1, Nat.lt_of_lt_of_le (h1 hc).2 k.size⟩, fun j v hv => ?_, fun j hj => ?_⟩
    · have hj := (List.getElem?_eq_some_iff.1 hv).1
      have := h.len
      have := h.le
      rw [hcell (by omega)]; exact h2 j v hv
    · rw [hcell (by omega), hfro (by omega)]; exact h3 j hj
/-- all but the last -/
theorem Win.pop (h : Win w B A (n + 1) cap xs) : Win w B A n cap (xs.take n) := by
  have hl := h.len
  have hle := h.le
  refine ⟨by rw [List.length_take]; omega, by omega, h.max, ?_⟩
  rcases h.lies with h0 | ⟨b, off, e, h1, h2, h3⟩
  · exact .inl h0
  · refine .inr ⟨b, off, e, h1, fun j v hv => h2 j v ?_, h3⟩
    have hj := (List.getElem?_eq_some_iff.1 hv).1
    rw [List.length_take] at hj
    rwa [List.getElem?_take_of_lt (by omega)] at hv
/-- all but the first -/
theorem Win.shift {g off : Nat} (h : Win w B (some ⟨g, off, none⟩) (n + 1) (cap + 1) xs) : Win w B (some ⟨g, off + 1, none⟩) n cap (xs.drop 1) := by
  have hl := h.len
  have hle := h.le
  have hm := h.max
  refine ⟨by rw [List.length_drop]; omega, by omega, by omega, ?_⟩
  rcases h.lies with ⟨h0, _⟩ | ⟨b, o, e, h1, h2, h3⟩
  · cases h0
  · injection e with e
    injection e with e1 e2
    subst e1 e2
    refine .inr ⟨g, off + 1, rfl, fun _ => h1 (by omega), fun j v hv => ?_, fun j hj => ?_⟩
    · rw [List.getElem?_drop] at hv
      rw [Nat.add_assoc]
      exact h2 _ _ hv
    · rw [Nat.add_assoc]
      exact h3 _ (by omega)
theorem Win.bare {g off : Nat} (w : World) (B : Nat) : Win w B (some ⟨g, off, none⟩) 0 0 [] :=
  ⟨rfl, Nat.le_refl _, by unfold maxLen; omega, .inr ⟨g, off, rfl, fun h => absurd h (by omega), fun j v h => by simp at h, fun j h => absurd h (by omega)⟩⟩
end
theorem tape_setCellsW (g : Nat) : ∀ (vs : List Value) (o : Nat) (w : World), (w.setCells g o vs).tape = w.tape
  | [], _, _ => rfl
  | v :: r, o, w => (tape_setCellsW g r (o + 1) (w.setCell ⟨g, o, none⟩ v)).trans rfl
theorem size_setCellsW (g : Nat) : ∀ (vs : List Value) (o : Nat) (w : World), (w.setCells g o vs).heap.size = w.heap.size
  | [], _, _ => rfl
  | v :: r, o, w => (size_setCellsW g r (o + 1) (w.setCell ⟨g, o, none⟩ v)).trans (by simp [World.setCell])
theorem below_setCellsW {B : Nat} (g : Nat) (hg : B ≤ g) (vs : List Value) (o : Nat) (w : World) : Below B w (w.setCells g o vs) := by
  induction vs generalizing o w with
  | nil => exact Below.refl _ _
  | cons v r ih => exact ((Below.refl B w).setCell (p := ⟨g, o, none⟩) hg v).trans (ih (o + 1) (w.setCell ⟨g, o, none⟩ v))

theorem win_append {t e ty : TypeId} {z : Value} {bytes : Nat} (E : ElemOk t e z 1 bytes) {w : World} {B n cap : Nat} {A : Option Addr} {xs : List Value} (h : Win w B A n cap xs)
    {A' : Option Addr} {m c : Nat} {vs : List Value} (hrow : Row w 1 A' m vs) (hA' : A' = none → m = 0 ∧ c = 0) (h1 : ∀ u ∈ vs, u.oneCell' = true)
    (hbytes : (n + m) * bytes ≤ 140737488355328) (h63 : n + m ≤ maxLen) (hB : B ≤ w.heap.size) :
    ∃ A2 cap2 w', (Builtin.append_ #[t, t] ty #[.slice A n cap, .slice A' m c]).run Tryz.prog w = .ok (.slice A2 (n + m) cap2) w' ∧ Win w' B A2 (n + m) cap2 (xs ++ vs) ∧ Below B w w' := by
  have hvl : vs.length = m := by have := hrow.len; rwa [Nat.mul_one] at this
  have hxl := h.len
  rcases h.lies with ⟨rfl, h0⟩ | ⟨g, off, rfl, hg1, hg2, hg3⟩
  · have hn : n = 0 := by have := h.le; omega
    subst h0 hn
    have hx : xs = [] := List.eq_nil_of_length_eq_zero hxl
    subst hx
    obtain ⟨A2, cap2, w', hr, ho, hgr⟩ := run_append_row (ty := ty) E (B := B) (World.ownsRow_nil w B e 1) hrow hA' h1 hbytes h63 hB
    refine ⟨A2, cap2, w', hr, Win.own ho, ⟨hgr.os, hgr.tape, hgr.output, hgr.size, fun k hk => hgr.block k (by omega) (by simp [Value.ownBlock])⟩⟩
  · obtain ⟨i0, hi0, hz0, hz1, hz2⟩ := info_parts E.info
    have hsrc : Src Tryz.prog i0.size t (.slice A' m c) m vs w := by
      rw [hz1]
      cases A' with
      | none =>
        obtain ⟨rfl, rfl⟩ := hA' rfl
        have hv : vs = [] := List.eq_nil_of_length_eq_zero hvl
        subst hv
        exact Src.ofNil w E.under 0
      | some ad =>
        refine Src.ofSlice w E.under ad m c vs (by rw [hvl, Nat.mul_one]) (fun j u hu => ?_) h1
        have hj : 0 < m := by have := (List.getElem?_eq_some_iff.1 hu).1; omega
        obtain ⟨b, o, e', hc⟩ := Row.at_ hrow hj
        injection e' with e'
        subst e'
        have : (⟨b, o, none⟩ : Addr).add j = ⟨b, o + j, none⟩ := by unfold Addr.add; split <;> simp_all
        rw [this]
        exact hc j u hu
    by_cases hroom : n + m ≤ cap
    · have hr := run_append_room_src (P := Tryz.prog) w t t ty e i0 E.under hi0 g off n cap _ m vs hsrc hroom
        (fun j hj => by rw [hz1, Nat.mul_one, Nat.add_assoc]; exact (hg3 (n + j) (by omega)).1)
        (fun j hj => by rw [hz1, Nat.mul_one, Nat.add_assoc]; exact (hg3 (n + j) (by omega)).2)
      rw [hz1, Nat.mul_one] at hr
      refine ⟨_, _, _, hr, ⟨by rw [List.length_append]; omega, hroom, h.max, .inr ⟨g, off, rfl, fun hc => ?_, fun j v hv => ?_, fun j hj => ?_⟩⟩, ?_⟩
      · rw [size_setCellsW]; exact hg1 hc
      · by_cases hjn : j < n
        · rw [List.getElem?_append_left (by omega)] at hv
          rw [World.cell?_setCells_out g vs (off + n) w ⟨g, off + j, none⟩ (fun _ _ => .inl (by simp only; omega))]
          exact hg2 j v hv
        · rw [List.getElem?_append_right (by omega)] at hv
          obtain ⟨hj2, hv2⟩ := List.getElem?_eq_some_iff.1 hv
          have := World.cell?_setCells_in g vs (off + n) w (fun k hk => by rw [Nat.add_assoc]; exact (hg3 (n + k) (by omega)).1) (j - xs.length) hj2
          rw [show off + n + (j - xs.length) = off + j by omega] at this
          rw [this, hv2]
      · refine ⟨World.isSome_setCells g vs (off + n) w _ (hg3 j hj).1, ?_⟩
        rw [World.frozen?_setCells]
        exact (hg3 j hj).2
      · by_cases hc : 0 < cap
        · exact below_setCellsW g (hg1 hc).1 _ _ _
        · have hv : vs = [] := List.eq_nil_of_length_eq_zero (by omega)
          subst hv
          exact Below.refl _ _
    · have hold : (Builtin.firstCells i0.size n (.slice (some ⟨g, off, none⟩) n cap)).run Tryz.prog w.drew = .ok xs.toArray w.drew := by
        rw [hz1]
        refine run_firstCells_some w.drew 1 n ⟨g, off, none⟩ n cap xs (by rw [hxl, Nat.mul_one]) (fun j u hu => ?_)
        have : (⟨g, off, none⟩ : Addr).add j = ⟨g, off + j, none⟩ := by unfold Addr.add; split <;> simp_all
        rw [this]
        exact hg2 j u hu
      have hr := run_append_grow_src (P := Tryz.prog) w t t ty e i0 z E.under hi0 hz0 (some ⟨g, off, none⟩) n cap xs hold _ m vs hsrc (by omega) (by unfold maxLen at h63; omega) (growslice_fits (by omega) (by rw [hz2]; exact hbytes))
      have hge := grownCap_ge w (n + m) cap e
      have hcm := grownCap_le_maxLen w (n + m) cap e h63
      refine ⟨_, _, _, hr, ⟨by rw [List.length_append]; omega, hge, hcm, .inr ⟨w.heap.size, 0, rfl, fun _ => ⟨hB, by simp⟩, fun j v hv => ?_, fun j hj => ?_⟩⟩, ?_⟩
      · rw [Nat.zero_add]
        have hb := Blk.new w.drew e ((xs ++ vs).toArray ++ Builtin.zeroCells z.cells (grownCap w (n + m) cap e - (n + m)))
        rw [show w.heap.size = w.drew.heap.size from rfl, hb.cell, Array.getElem?_append_left (by have := (List.getElem?_eq_some_iff.1 hv).1; simpa using this)]
        simpa using hv
      · rw [Nat.zero_add]
        have hb := Blk.new w.drew e ((xs ++ vs).toArray ++ Builtin.zeroCells z.cells (grownCap w (n + m) cap e - (n + m)))
        rw [show w.heap.size = w.drew.heap.size from rfl, hb.cell, hb.frozen]
        refine ⟨?_, rfl⟩
        rw [Array.getElem?_eq_getElem (by simp only [Array.size_append, List.size_toArray, List.length_append, size_zeroCells, E.zcells]; omega)]
        rfl
      · exact (Below.drew (Below.refl B w)).alloc hB _
theorem wpList_append_win {ops : Array Oper} {rest : List Oper} {o : Oper} {a : Act} {Q : Exit → Act → World → Prop} {t e : TypeId} {z : Value} {bytes : Nat} (E : ElemOk t e z 1 bytes) (hgd : o.guard = none) (s x : Operand)
    (ho : o.op = .call { callee := .builtin .append, args := #[s, x], argTypes := #[t, t] }) {B : Nat} {w : World}
    {A : Option Addr} {n cap : Nat} {xs : List Value} (hs : a.eval s = .slice A n cap) (h : Win w B A n cap xs)
    {A' : Option Addr} {m c : Nat} {vs : List Value} (hx : a.eval x = .slice A' m c) (hrow : Row w 1 A' m vs) (hA' : A' = none → m = 0 ∧ c = 0) (h1 : ∀ u ∈ vs, u.oneCell' = true)
    (hbytes : (n + m) * bytes ≤ 140737488355328) (h63 : n + m ≤ maxLen) (hB : B ≤ w.heap.size)
    (K : ∀ A2 cap2 w', Win w' B A2 (n + m) cap2 (xs ++ vs) → Below B w w' → wpList Tryz.prog ops Q rest (a.put o.dst (.slice A2 (n + m) cap2)) w') : wpList Tryz.prog ops Q (o :: rest) a w := by
  refine wpList_plain hgd fun K' hK' => ?_
  obtain ⟨A2, cap2, w', hr, h2, h3⟩ := win_append (ty := o.type) E h hrow hA' h1 hbytes h63 hB
  unfold Oper.wp execOp
  simp only [ho, resolve, invoke, builtin, Sem.run_bind, Sem.run_pure, Result.andThen_ok, List.map_toArray, List.map_cons, List.map_nil, hs, hx, hr]
  exact hK' _ _ (K A2 cap2 w' h2 h3)
end Go.Proofs.YtoamnifnfkgbiaaGreatDoor

namespace Go.Proofs.YtoamnifnfkgbiaaGreatDoor
open Go.RowKit
set_option linter.unusedVariables false
theorem strV_oneCell {ss : List (List UInt8)} : ∀ u ∈ ss.map strV, u.oneCell' = true := by
  intro u hu
  obtain ⟨c, _, rfl⟩ := List.mem_map.1 hu
  rfl
set_option maxRecDepth 100000 in
set_option maxHeartbeats 1000000 in
theorem strings_any (ss : List (List UInt8)) (m : Nat) (A : Option Addr) (cap : Nat) (w : World) (hm : m ≤ 1099511627776) (hrow : StrRow w A m ss) (hA : A = none → m = 0 ∧ cap = 0) :
    Calls Tryz.prog 14 #[.slice A m cap] w fun e w' => ∃ A' cap', e = .returned (.slice A' m cap') ∧ w'.ownsRow w.heap.size 9 1 (.slice A' m cap') m (ss.map strV) ∧ Gr w w' := by
  obtain ⟨i0, hi0, hz0, hz1, hz2⟩ := info_parts E.str.info
  have hlen := hrow.len
  cases A with
  | none =>
    obtain ⟨rfl, rfl⟩ := hA rfl
    obtain rfl : ss = [] := List.eq_nil_of_length_eq_zero hlen
    go_enter Tryz.func14, Tryz.ntmps14
    go_wp2_with (refine wpList_append_own_none rfl (.const (.slice none 0 0)) (.tmp 3) 31 rfl w.heap.size 9 i0 1 E.str.under hi0 _ 0 [] rfl (World.ownsRow_nil _ _ _ _) rfl ?_)
    go_ret
    exact ⟨none, 0, rfl, World.ownsRow_nil _ _ _ _, Gr.refl _⟩
  | some ad =>
    have hnews : ∀ j u, (ss.map strV)[j]? = some u → w.cell? (ad.add j) = some u := by
      intro j u hu
      have hj : j < ss.length := by have := (List.getElem?_eq_some_iff.1 hu).1; simpa using this
      obtain ⟨b, off, e, hc⟩ := Row.at_ hrow (by omega)
      injection e with e
      subst e
      have : (⟨b, off, none⟩ : Addr).add j = ⟨b, off + j, none⟩ := by unfold Addr.add; split <;> simp_all
      rw [this]
      exact hc j u hu
    have HN := sec hnews
    have HL := sec hlen
    clear hnews hrow
    go_enter Tryz.func14, Tryz.ntmps14
    go_wp2_with (refine wpList_append_own _ rfl (.const (.slice none 0 0)) (.tmp 3) 31 rfl w.heap.size 9 i0 (.string (bs [])) 1 16 E.str.under hi0 hz0 hz1 hz2 E.str.zcells (by omega) _ 0 [] rfl (World.ownsRow_nil _ _ _ _) ad m cap (ss.map strV) rfl (by rw [List.length_map, HL.out, Nat.mul_one]) HN.out strV_oneCell (by unfold maxLen; omega) (by omega) (Nat.le_refl _) ?_; intro v' w' hown hgr hnil)
    go_ret
    rw [Nat.zero_add, List.nil_append] at hown
    have hg : Gr w w' := (Gr.refl w).grown hgr (by rintro k hk; cases hk)
    rcases hown.2 with ⟨rfl, h0⟩ | ⟨g, cap', cur, rfl, _⟩
    · subst h0
      exact ⟨none, 0, rfl, hown, hg⟩
    · exact ⟨some ⟨g, 0, none⟩, cap', rfl, hown, hg⟩
end Go.Proofs.YtoamnifnfkgbiaaGreatDoor

namespace Go.Proofs.YtoamnifnfkgbiaaGreatDoor
set_option maxRecDepth 100000
open Go.RowKit
set_option linter.unusedVariables false
/-- where an object leads, as a slice of strings -/
def LkPost (w : World) (L : List (List UInt8)) (e : Ending) (w' : World) : Prop := ∃ A c n, n = L.length ∧ e = .returned (.slice A n c) ∧ StrRow w' A n L ∧ (A = none → n = 0 ∧ c = 0) ∧ n ≤ c ∧ Gr w w'
theorem own_nilK {w : World} {k e n cap : Nat} {A : Option Addr} {xs : List Value} (h : w.ownsRow k e 1 (.slice A n cap) n xs) : A = none → n = 0 ∧ cap = 0 := by
  intro e
  rcases h.2 with ⟨h, h0⟩ | ⟨g, _, _, h, _⟩
  · injection h with _ h2 h3
    exact ⟨h0, h3⟩
  · injection h with h2 _ _
    rw [e] at h2; cases h2
theorem own_capK {w : World} {k e n cap : Nat} {A : Option Addr} {xs : List Value} (h : w.ownsRow k e 1 (.slice A n cap) n xs) : n ≤ cap := by
  rcases h.2 with ⟨h, h0⟩ | ⟨g, cap', cur, h, _, _, hle, _⟩
  · omega
  · injection h with _ _ h3
    subst h3
    exact hle
theorem rowkK {W : World} {g : Nat} {T : TypeId} {cs : Array Value} {k : Nat} (h : Blk W g T cs) (hk : cs.size = k) : Row W k (some ⟨g, 0, none⟩) 1 cs.toList := by
  refine ⟨by rw [Nat.one_mul]; simpa using hk, fun _ => ⟨g, 0, rfl, fun i v hv => ?_⟩⟩
  rw [Nat.zero_add, h.cell]
  simpa using hv
theorem BlkAtK {w : World} {g : Nat} {t : TypeId} {cs : Array Value} (h : g = w.heap.size) : Blk (w.alloc (.cells cs t)) g t cs := by subst h; exact Blk.new w t cs
theorem lk_post {w w' : World} {B : Nat} {A : Option Addr} {n cap : Nat} {L : List (List UInt8)} (h : w'.ownsRow B 9 1 (.slice A n cap) n (L.map strV)) (g : Gr w w') : LkPost w L (.returned (.slice A n cap)) w' :=
  ⟨A, cap, n, by have := h.1; simpa using this.symm, rfl, Row.own h, own_nilK h, own_capK h, g⟩

set_option maxHeartbeats 16000000 in
theorem obLinks_any (o : Ob) (A : Option Addr) (c : Nat) (B : Option Addr) (d : Nat) (w : World) (hR : ObR w o A c B d) (hz : ObSz 1099511627776 o) :
    Calls Tryz.prog 55 #[.agg (obA o A c B d)] w (LkPost w (obLk o)) := by
  have hel := hz.ents
  have hpl := hz.pars
  obtain ⟨wa, hwa⟩ : ∃ x, x = w.alloc (.cells (obA o A c B d) 91) := ⟨_, rfl⟩
  have hb : Blk wa w.heap.size 91 (obA o A c B d) := by rw [hwa]; exact Blk.new w _ _
  have hg0 : Gr w wa := by rw [hwa]; exact (Gr.refl w).alloc _
  have HEN := sec (hR.ents.gr hg0)
  have HPA := sec (hR.pars.gr hg0)
  have HPN := sec hR.pn
  obtain ⟨p, hp⟩ : ∃ p, p = w.heap.size := ⟨_, rfl⟩
  rw [← hp] at hb
  obtain ⟨V, hV⟩ : ∃ V, V = obLk o := ⟨_, rfl⟩
  have HV := sec hV
  rw [← hV]
  clear hV hz hR
  obtain ⟨kd, dt, en, tr, pa, wh, no, ti, ta⟩ := o
  simp only at HEN HPA HPN hel hpl
  unfold obA at hb hwa
  unfold obA
  simp only at hb hwa ⊢
  have HCELL : Sec (∀ w', Gr wa w' → w'.cell? ⟨p, 0, none⟩ = some (.int .i64 kd) ∧ w'.cell? ⟨p, 1, none⟩ = some (.string (bs dt)) ∧ w'.cell? ⟨p, 2, none⟩ = some (.slice A en.length c) ∧ w'.cell? ⟨p, 3, none⟩ = some (.string (bs tr)) ∧ w'.cell? ⟨p, 4, none⟩ = some (.slice B pa.length d) ∧ w'.cell? ⟨p, 5, none⟩ = some (.string (bs wh)) ∧ w'.cell? ⟨p, 6, none⟩ = some (.string (bs no)) ∧ w'.cell? ⟨p, 7, none⟩ = some (.int .i64 ti) ∧ w'.cell? ⟨p, 8, none⟩ = some (.string (bs ta))) := sec (fun w' g => ⟨(hb.gr g).cell 0, (hb.gr g).cell 1, (hb.gr g).cell 2, (hb.gr g).cell 3, (hb.gr g).cell 4, (hb.gr g).cell 5, (hb.gr g).cell 6, (hb.gr g).cell 7, (hb.gr g).cell 8⟩)
  clear hb
  have HSZ : Sec (∀ w', Gr wa w' → wa.heap.size ≤ w'.heap.size) := sec (fun w' g => g.size)
  have hb1 : (0 + 1) * 16 ≤ 140737488355328 := by omega
  have hb2 : 0 + 1 ≤ maxLen := by unfold maxLen; omega
  have hb3 : (0 + 1 + pa.length) * 16 ≤ 140737488355328 := by omega
  have hb4 : 0 + 1 + pa.length ≤ maxLen := by unfold maxLen; omega
  obtain ⟨q0, hq0⟩ : ∃ q, q = wa.heap.size := ⟨_, rfl⟩
  have HQ := sec hq0
  go_enter Tryz.func55, Tryz.ntmps55
  go_upto_region 1 with fail
  rw [← hwa, ← hp]
  clear hwa hp hq0
  obtain ⟨c0, c1, c2, c3, c4, c5, c6, c7, c8⟩ := HCELL.out wa (Gr.refl _)
  by_cases k2 : kd = 2
  · subst k2
    have HV2 : Sec (V = en.map (·.id)) := sec (by rw [HV.out]; unfold obLk; rw [if_pos rfl])
    clear HV HPA HPN hb1 hb2 hb3 hb4
    go_upto_region 4 with fail
    go_wp2_with fail
    clear c0 c1 c2 c3 c4 c5 c6 c7 c8
    go_loopg [13, 3, 5] en.length (fun fuel iv lv _ wr => ∃ (i : Nat) (A1 : Option Addr) (c1 : Nat), iv = .int .i64 (i : Int) ∧ lv = .slice A1 i c1 ∧ en.length ≤ i + fuel ∧ i ≤ en.length ∧ Sec (wr.ownsRow wa.heap.size 9 1 (.slice A1 i c1) i (((en.take i).map (·.id)).map strV)) ∧ Gr wa wr)
    case atStart => exact ⟨0, none, 0, rfl, rfl, by omega, by omega, sec (World.ownsRow_nil _ _ _ _), Gr.refl _⟩
    case round =>
      obtain ⟨i, A1, k1, rfl, rfl, hik, hi, HO, gw⟩ := hrel
      obtain ⟨c0, c1, c2, c3, c4, c5, c6, c7, c8⟩ := HCELL.out wr gw
      by_cases hlt : i < en.length
      · have hii : (i : Int) < (en.length : Int) := by omega
        obtain ⟨b, off, rfl, e0, e1, e2⟩ := (HEN.out.gr gw).cell hlt
        have HSU : Sec (((en.take (i + 1)).map (·.id)).map strV = ((en.take i).map (·.id)).map strV ++ [.string (bs en[i].id)]) := sec (by
          rw [List.take_succ_eq_append_getElem hlt, List.map_append, List.map_append]; rfl)
        obtain ⟨x, hxx⟩ : ∃ x, x = en[i] := ⟨_, rfl⟩
        rw [← hxx] at e0 e1 e2 HSU
        have HLT := sec hlt
        clear hxx hlt
        obtain ⟨nm, dr, id⟩ := x
        simp only at e0 e1 e2 HSU
        have HOx : Sec ((wr.alloc (.cells #[.string (bs nm), .bool dr, .string (bs id)] 128)).ownsRow wa.heap.size 9 1 (.slice A1 i k1) i (((en.take i).map (·.id)).map strV)) := sec (own_gr HO.out ((Gr.refl wr).alloc _))
        have gx := gw.alloc (.cells #[.string (bs nm), .bool dr, .string (bs id)] 128)
        have hbi : (i + 1) * 16 ≤ 140737488355328 := by have := HLT.out; omega
        have hbm : i + 1 ≤ maxLen := by have := HLT.out; unfold maxLen; omega
        go_wp2_with (refine wpList_append_row E.str rfl (.tmp 17) (.tmp 20) rfl rfl (own_gr HOx.out ((Gr.refl _).alloc _)) rfl (rowkK (BlkAtK (by simp)) rfl) (fun h => by cases h) (fun u hu => by simp at hu; subst hu; rfl) hbi hbm ((gx.alloc _).size) ?_; intro A2 k2 w2 o2 h2; have HO2 := sec o2; clear o2; have g2 : Gr wa w2 := Gr.grown (gx.alloc (.cells #[.string (bs id)] 9)) h2 (fun k hk => (HOx.out.lt k hk).1))
        go_roundg (gk - 1)
        case rel => exact ⟨i + 1, A2, k2, by go_num, rfl, by have := HLT.out; omega, HLT.out, sec (by rw [HSU.out]; exact HO2.out), g2⟩
        case measure => have := HLT.out; omega
      · have hE : i = en.length := by omega
        have hii : ¬ (i : Int) < (en.length : Int) := by omega
        have q : decide (i < en.length) = false := decide_eq_false hlt
        have HF : Sec (wr.ownsRow wa.heap.size 9 1 (.slice A1 i k1) i (V.map strV)) := sec (by rw [HV2.out]; have := HO.out; rwa [List.take_of_length_le (by omega)] at this)
        clear hlt hik hi hE
        go_wp2_with fail
        go_ret
        exact lk_post HF.out (hg0.trans gw)
  have z2 : (kd == 2) = false := by rw [beq_eq_false_iff_ne]; exact k2
  by_cases k3 : kd = 3
  · subst k3
    have HV2 : Sec (V = tr :: pa) := sec (by rw [HV.out]; unfold obLk; rw [if_neg (by simp only; omega), if_pos rfl])
    clear HV HEN
    go_upto_region 10 with fail
    have gd : Gr wa wa.drew := (Gr.refl _).drew
    obtain ⟨e0, e1, e2, e3, e4, -⟩ := HCELL.out (wa.alloc (.cells #[.string (bs tr)] 9)) ((Gr.refl _).alloc _)
    go_region_law (first
      | (refine step_append_row E.str rfl (.tmp 25) (.tmp 28) rfl (B := q0) rfl (World.ownsRow_nil _ _ _ _) rfl (rowkK (BlkAtK (by simp)) rfl) (fun h => by cases h) (fun u hu => by simp at hu; subst hu; rfl) hb1 hb2 (by rw [HQ.out]; simp) ?_; intro A1 k1 x1 o1 h1; have G1 : Gr wa x1 := Gr.grown ((Gr.refl _).drew.alloc _) h1 (by rintro k hk; cases hk); obtain ⟨m0, m1, m2, m3, m4, -⟩ := HCELL.out x1 G1)
      | (refine step_append_row E.str rfl (.tmp 29) (.tmp 31) rfl rfl o1 rfl (Row.gr HPA.out (by first | with_reducible assumption)) HPN.out strV_oneCell hb3 hb4 (by rw [HQ.out]; exact HSZ.out _ (by first | with_reducible assumption)) ?_; intro A2 k2 x2 o2 h2; have G2 : Gr wa x2 := Gr.grown (by first | with_reducible assumption) h2 (fun k hk => by rw [← HQ.out]; exact (o1.lt k hk).1)))
    all_goals
      have HF : Sec (x2.ownsRow q0 9 1 (.slice A2 (0 + 1 + pa.length) k2) (0 + 1 + pa.length) (V.map strV)) := sec (by rw [HV2.out]; exact o2)
      clear o1 o2 h1 h2
      go_wp2_with fail
      go_ret
      exact lk_post HF.out (hg0.trans G2)
  have z3 : (kd == 3) = false := by rw [beq_eq_false_iff_ne]; exact k3
  by_cases k4 : kd = 4
  · subst k4
    have HV2 : Sec (V = [ta]) := sec (by rw [HV.out]; unfold obLk; rw [if_neg (by simp only; omega), if_neg (by simp only; omega), if_pos rfl])
    clear HV HEN HPA
    go_wp2_with (refine wpList_append_row E.str rfl (.tmp 35) (.tmp 38) rfl (B := wa.heap.size) rfl (World.ownsRow_nil _ _ _ _) rfl (rowkK (BlkAtK (by simp)) rfl) (fun h => by cases h) (fun u hu => by simp at hu; subst hu; rfl) hb1 hb2 (((Gr.refl wa).alloc _).size) ?_; intro A2 k2 w2 o2 h2; have HO2 := sec o2; clear o2; have g2 : Gr wa w2 := Gr.grown ((Gr.refl wa).alloc (.cells #[.string (bs ta)] 9)) h2 (by rintro k hk; cases hk))
    go_ret
    exact lk_post (by rw [HV2.out]; exact HO2.out) (hg0.trans g2)
  have z4 : (kd == 4) = false := by rw [beq_eq_false_iff_ne]; exact k4
  have HV2 : Sec (V = []) := sec (by rw [HV.out]; unfold obLk; rw [if_neg (by simp only; omega), if_neg (by simp only; omega), if_neg (by simp only; omega)])
  clear HV HEN HPA
  go_wp2_with fail
  go_ret
  exact lk_post (B := q0) (by rw [HV2.out]; exact World.ownsRow_nil _ _ _ _) hg0

end Go.Proofs.YtoamnifnfkgbiaaGreatDoor

namespace Go.Proofs.YtoamnifnfkgbiaaGreatDoor
set_option maxRecDepth 100000
open Go.Shelf
def sortRen : Go.Shelf.Ren := ⟨fun | 190 => 56 | 125 => 97 | 258 => 96 | 128 => 155 | 129 => 156 | 302 => 146 | 303 => 147 | 304 => 148 | 305 => 149 | 306 => 150 | 307 => 151 | 308 => 152 | 309 => 153 | 310 => 154 | 333 => 186 | 329 => 187 | 330 => 188 | 334 => 189 | 335 => 190 | 336 => 191 | 344 => 206 | n => n, fun | 31 => 31 | 9 => 9 | 3 => 3 | 46 => 132 | 0 => 0 | 51 => 134 | 53 => 182 | 4 => 4 | 183 => 174 | 182 => 173 | 131 => 145 | 5 => 5 | 218 => 206 | 222 => 210 | 228 => 223 | 229 => 224 | n => n, fun n => n⟩
theorem sortLays : Lays.n190 Tryz.prog sortRen := {
  mixed := by kernel_rfl
  f125 := Tryz.func97.trans (congrArg some (by kernel_rfl))
  f128 := Tryz.func155.trans (congrArg some (by kernel_rfl))
  f129 := Tryz.func156.trans (congrArg some (by kernel_rfl))
  f190 := Tryz.func56.trans (congrArg some (by kernel_rfl))
  f258 := Tryz.func96.trans (congrArg some (by kernel_rfl))
  f302 := Tryz.func146.trans (congrArg some (by kernel_rfl))
  f303 := Tryz.func147.trans (congrArg some (by kernel_rfl))
  f304 := Tryz.func148.trans (congrArg some (by kernel_rfl))
  f305 := Tryz.func149.trans (congrArg some (by kernel_rfl))
  f306 := Tryz.func150.trans (congrArg some (by kernel_rfl))
  f307 := Tryz.func151.trans (congrArg some (by kernel_rfl))
  f308 := Tryz.func152.trans (congrArg some (by kernel_rfl))
  f309 := Tryz.func153.trans (congrArg some (by kernel_rfl))
  f310 := Tryz.func154.trans (congrArg some (by kernel_rfl))
  f329 := Tryz.func187.trans (congrArg some (by kernel_rfl))
  f330 := Tryz.func188.trans (congrArg some (by kernel_rfl))
  f333 := Tryz.func186.trans (congrArg some (by kernel_rfl))
  f334 := Tryz.func189.trans (congrArg some (by kernel_rfl))
  f335 := Tryz.func190.trans (congrArg some (by kernel_rfl))
  f336 := Tryz.func191.trans (congrArg some (by kernel_rfl))
  f344 := Tryz.func206.trans (congrArg some (by kernel_rfl))
  t0 := Tryz.underlying0
  a0 := Tryz.isAgg0
  z0 := Tryz.sizeOf0
  v0 := Tryz.zeroValue0
  t3 := Tryz.underlying3
  a3 := Tryz.isAgg3
  z3 := Tryz.sizeOf3
  v3 := Tryz.zeroValue3
  t4 := Tryz.underlying4
  a4 := Tryz.isAgg4
  z4 := Tryz.sizeOf4
  v4 := Tryz.zeroValue4
  t5 := Tryz.underlying5
  a5 := Tryz.isAgg5
  z5 := Tryz.sizeOf5
  v5 := Tryz.zeroValue5
  t9 := Tryz.underlying9
  a9 := Tryz.isAgg9
  z9 := Tryz.sizeOf9
  v9 := Tryz.zeroValue9
  t31 := Tryz.underlying31
  a31 := Tryz.isAgg31
  z31 := Tryz.sizeOf31
  v31 := Tryz.zeroValue31
  t46 := Tryz.underlying132
  a46 := Tryz.isAgg132
  z46 := Tryz.sizeOf132
  v46 := Tryz.zeroValue132
  t51 := Tryz.underlying134
  a51 := Tryz.isAgg134
  z51 := Tryz.sizeOf134
  v51 := Tryz.zeroValue134
  t53 := Tryz.underlying182
  a53 := Tryz.isAgg182
  z53 := Tryz.sizeOf182
  v53 := Tryz.zeroValue182
  t131 := Tryz.underlying145
  a131 := Tryz.isAgg145
  z131 := Tryz.sizeOf145
  v131 := Tryz.zeroValue145
  t182 := Tryz.underlying173
  a182 := Tryz.isAgg173
  z182 := Tryz.sizeOf173
  v182 := Tryz.zeroValue173
  t183 := Tryz.underlying174
  a183 := Tryz.isAgg174
  z183 := Tryz.sizeOf174
  v183 := Tryz.zeroValue174
  t218 := Tryz.underlying206
  a218 := Tryz.isAgg206
  z218 := Tryz.sizeOf206
  v218 := Tryz.zeroValue206
  t222 := Tryz.underlying210
  a222 := Tryz.isAgg210
  z222 := Tryz.sizeOf210
  v222 := Tryz.zeroValue210
  t228 := Tryz.underlying223
  a228 := Tryz.isAgg223
  z228 := Tryz.sizeOf223
  v228 := Tryz.zeroValue223
  t229 := Tryz.underlying224
  a229 := Tryz.isAgg224
  z229 := Tryz.sizeOf224
  v229 := Tryz.zeroValue224 }
end Go.Proofs.YtoamnifnfkgbiaaGreatDoor

namespace Go.Proofs.YtoamnifnfkgbiaaGreatDoor
set_option maxRecDepth 100000
open Go.RowKit
set_option linter.unusedVariables false
theorem sortS_any (L : List (List UInt8)) (A : Option Addr) (n c B : Nat) (w : World) (h : w.ownsRow B 9 1 (.slice A n c) n (L.map strV)) (hn : n ≤ 1099511627776) :
    Calls Tryz.prog 56 #[.slice A n c] w fun e w' => e = .returned (.tuple #[]) ∧ w'.ownsRow B 9 1 (.slice A n c) n ((L.mergeSort fun x y => decide (x ≤ y)).map strV) ∧ w.grownBy w' (Value.slice A n c).ownBlock := by
  have hl : L.length = n := by have := h.1; simpa using this
  rcases h.2 with ⟨hv, h0⟩ | ⟨g, cap, cur, hv, hB, hg, hnc, hcm, hcs, ht⟩
  · injection hv with hA hn0 hc
    subst hA hn0 hc
    obtain rfl : L = [] := List.eq_nil_of_length_eq_zero hl
    refine Calls.mono (show Calls Tryz.prog 56 #[.slice none 0 0] w _ from Go.Proofs.Any.slices_Sort_string_none sortLays none 0 w) ?_
    rintro e w' ⟨rfl, rfl⟩
    exact ⟨rfl, by rw [List.mergeSort_nil]; exact h, ⟨rfl, rfl, rfl, Nat.le_refl _, fun _ _ _ => rfl⟩⟩
  · injection hv with hA _ hc
    subst hA hc
    subst hl
    rw [Nat.mul_one] at ht
    have hH : Go.Sort.Holds encStr w g 0 L.toArray := holds_of_block hg ht
    have hlt : g < w.heap.size := (Array.getElem?_eq_some_iff.1 hg).1
    refine Calls.mono (show Calls Tryz.prog 56 #[.slice (some ⟨g, 0, none⟩) L.length c] w _ from Go.Proofs.Any.slices_Sort_string sortLays g 0 c L w hH hlt (by omega)) ?_
    rintro e w' ⟨rfl, k, os, rfl⟩
    exact ⟨rfl, ownsRow_sorted (by simp) hB hg hnc hcm hcs, grownBy_sorted _⟩
end Go.Proofs.YtoamnifnfkgbiaaGreatDoor

namespace Go.Proofs.YtoamnifnfkgbiaaGreatDoor
set_option maxRecDepth 100000
open Go.RowKit
set_option linter.unusedVariables false
/-- what is led to comes back -/
def RcPost (w : World) (G : Tl) (ids : List (List UInt8)) (e : Ending) (w' : World) : Prop :=
  ∃ L A n c er, RcSpec G ids (L, er) ∧ e = .returned (.tuple #[.slice A n c, .int .i64 er]) ∧ StrRow w' A n L ∧ (A = none → n = 0 ∧ c = 0) ∧ n ≤ c ∧ L.length ≤ 400 ∧ Gr w w'

theorem Win.last {w : World} {B m cap : Nat} {A : Option Addr} {ys : List (List UInt8)} {x : List UInt8} (h : Win w B A (m + 1) cap ((ys ++ [x]).map strV)) (hy : ys.length = m) : ∃ g off, A = some ⟨g, off, none⟩ ∧ w.cell? ⟨g, off + m, none⟩ = some (.string (bs x)) ∧ Win w B A m cap (ys.map strV) := by
  rcases h.lies with ⟨_, h0⟩ | ⟨g, off, e, _, h2, _⟩
  · have := h.le; omega
  · have hp := h.pop
    refine ⟨g, off, e, h2 m _ ?_, ?_⟩
    · rw [List.map_append, List.getElem?_append_right (by rw [List.length_map]; omega), List.length_map, hy, Nat.sub_self]
      rfl
    · rw [List.map_append, List.take_append_of_le_length (by rw [List.length_map]; omega), List.take_of_length_le (by rw [List.length_map]; omega)] at hp
      exact hp
theorem MapAt.below {α : Type} {k e : TypeId} {mk : α → Lit} {w w' : World} {B b c : Nat} {f : List UInt8 → Option α} (h : MapAt k e mk w b c f) (g : Below B w w') (hb : b < B) : MapAt k e mk w' b c f := by
  obtain ⟨D, ⟨es, clock, e1, e2⟩, h2⟩ := h
  exact ⟨D, ⟨es, clock, by rw [g.block b hb]; exact e1, e2⟩, h2⟩
theorem cell_map {w : World} {b o : Nat} {es : Array MapEntry} {k : Nat} (h : w.heap[b]? = some (.map es k)) : w.cell? ⟨b, o, none⟩ = none := by simp [World.cell?, h]
theorem Row.aside {α : Type} {k e : TypeId} {mk : α → Lit} {w w' : World} {b c size n : Nat} {A : Option Addr} {f : List UInt8 → Option α} {vs : List Value} (h : Row w size A n vs) (hm : MapAt k e mk w b c f) (hg : w.grownBy w' (some b)) : Row w' size A n vs := by
  obtain ⟨D, ⟨es, clock, e1, _⟩, _⟩ := hm
  refine h.keep fun b' o v hv _ => ?_
  have hne : b' ≠ b := fun e => by subst e; rw [cell_map e1] at hv; cases hv
  have hlt := World.block_lt_of_cell? w _ hv
  rw [World.cell?_of_block (a := ⟨b', o, none⟩) (hg.block b' hlt (fun e => hne (by injection e)))]
  exact hv
theorem ObR.aside {α : Type} {k e : TypeId} {mk : α → Lit} {w w' : World} {b c' : Nat} {f : List UInt8 → Option α} {o : Ob} {A : Option Addr} {c : Nat} {B : Option Addr} {d : Nat} (h : ObR w o A c B d) (hm : MapAt k e mk w b c' f) (hg : w.grownBy w' (some b)) : ObR w' o A c B d :=
  ⟨Row.aside h.ents hm hg, Row.aside h.pars hm hg, h.en, h.pn, h.ec, h.pc⟩
theorem Gr.low {B : Nat} {a b c : World} (h : Gr a b) (g : Below B b c) (hB : a.heap.size ≤ B) : Gr a c := Below.trans h (Below.mono g hB)

set_option maxHeartbeats 16000000 in
theorem reach_any (g : Nat) (caps : Array Value) (G : Tl) (eg : ∀ args w, (callFunc g args).run Tryz.prog w = .ok (.enter g args) w) (ids : List (List UInt8)) (A : Option Addr) (n c : Nat) (w : World) (hT : Tells g caps G w) (hG : ∀ x, (G x).1.length ≤ 1048576)
    (hx : StrRow w A n ids) (hn : n ≤ 1099511627776) (hA : A = none → n = 0 ∧ c = 0) (hs : ∀ x ∈ ids, x.length ≤ 1099511627776) :
    Calls Tryz.prog 12 #[.func (.func g) #[] caps, .slice A n c] w (RcPost w G ids) := by
  have hln := hx.len
  obtain ⟨wa, hwa⟩ : ∃ x, x = w.alloc (.map #[] 0) := ⟨_, rfl⟩
  have hmk : (Instr.makeMap 88 none).run Tryz.prog w = .ok (.map (some w.heap.size)) wa := by rw [hwa]; rfl
  have M0 : MapAt 9 4 Lit.bool wa w.heap.size 0 (seenF []) := by rw [hwa, seenF_nil]; exact MapAt.made _ _ _ _
  have g0 : Gr w wa := by rw [hwa]; exact (Gr.refl w).alloc _
  have hba : w.heap.size < wa.heap.size := by rw [hwa]; simp
  obtain ⟨b, hb⟩ : ∃ b, b = w.heap.size := ⟨_, rfl⟩
  rw [← hb] at hmk M0 hba
  have HX := sec (hx.gr g0)
  have HA := sec hA
  have HT := sec hT
  have HSZ := sec hs
  have HGL := sec hG
  have HBA := sec hba
  have HB := sec hb
  clear hx hA hT hs hG hwa hba hb
  go_enter Tryz.func12, Tryz.ntmps12
  go_wp2_with (first
    | (go_at_call 53; (with_reducible refine Calls.mono (cloneS_any ids A n c _ hn HX.out HA.out) ?_); rintro e w1 ⟨A1, c1, rfl, o1, g1⟩))
  have W1 := sec (Win.own o1)
  have M1 := sec (M0.gr g1)
  have G1 := sec (And.intro (g0.trans g1) g1.size)
  clear M0 g0 g1 o1
  go_loopg [7, 8, 9] (n + 65 * 400) (fun fuel wv lv gv wr => ∃ (W S : List (List UInt8)) (m : Nat) (B : Option Addr) (d : Nat) (lk wg : Bool), wv = .slice B m d ∧ lv = .bool lk ∧ gv = .bool wg ∧ m + 65 * (400 - S.length) ≤ fuel ∧ S.length ≤ 400 ∧ m ≤ n + 64 * S.length ∧
      Sec (Rc G ids S W.reverse lk wg ∧ W.length = m ∧ (∀ x ∈ W, x.length ≤ 1099511627776) ∧ (∀ x ∈ S, x.length ≤ 1099511627776)) ∧ Sec (Win wr wa.heap.size B m d (W.map strV) ∧ MapAt 9 4 Lit.bool wr b S.length (seenF S) ∧ Gr w wr ∧ wa.heap.size ≤ wr.heap.size))
  case atStart => exact ⟨ids, [], n, A1, c1, false, false, rfl, rfl, rfl, by simp, by simp, by simp, sec ⟨(Rc.start G ids).perm (fun x => by simp), hln, HSZ.out, by simp⟩, sec ⟨W1.out, M1.out, G1.out⟩⟩
  case round =>
    clear W1 M1 G1
    obtain ⟨W, S, m, B, d, lk, wg, rfl, rfl, rfl, hf, hS, hmn, HR, HM⟩ := hrel
    by_cases hm : 0 < m
    · obtain ⟨m', rfl⟩ : ∃ m', m = m' + 1 := ⟨m - 1, by omega⟩
      obtain ⟨ys, x, rfl⟩ : ∃ ys x, W = ys ++ [x] := ⟨W.dropLast, W.getLast (by intro e; have := HR.out.2.1; rw [e] at this; simp at this), (List.dropLast_concat_getLast _).symm⟩
      have hyl : ys.length = m' := by have := HR.out.2.1; rw [List.length_append] at this; simpa using this
      obtain ⟨q, off, rfl, e0, W0⟩ := Win.last HM.out.1 hyl
      have HW := sec W0
      have hmp : (0 : Int) < (m' : Int) + 1 := by omega
      have hmw : IntKind.i64.wrap ((m' : Int) + 1 - 1) = (m' : Int) := by rw [IntWalk.i64_in _ (by omega)]; omega
      have hmd : m' ≤ d := W0.le
      have hx40 : x.length ≤ 1099511627776 := HR.out.2.2.1 x (by simp)
      have hxl : x.length ≤ maxLen := by unfold maxLen; omega
      have HRC : Sec (Rc G ids S (x :: ys.reverse) lk wg) := sec (by have := HR.out.1; rwa [List.reverse_append, List.reverse_singleton, List.singleton_append] at this)
      have HYS : Sec (∀ y ∈ ys, y.length ≤ 1099511627776) := sec (fun y hy => HR.out.2.2.1 y (List.mem_append_left _ hy))
      have HSS : Sec (∀ y ∈ S, y.length ≤ 1099511627776) := sec HR.out.2.2.2
      have HYL := sec hyl
      clear W0 HR hyl
      by_cases hxS : x ∈ S
      · have hlk : (seenF S x).getD false = true := by rw [seenF_get, decide_eq_true hxS]
        have HV : Sec (Vis G S lk wg x) := sec (.inl hxS)
        clear hxS
        go_wp2_with (refine wpList_look1 MB rfl (.tmp 33) (.tmp 34) rfl rfl HM.out.2.1 rfl hxl hlk ?_)
        go_roundg (gk - 1)
        case rel => exact ⟨ys, S, m', _, d, lk, wg, rfl, rfl, rfl, by omega, hS, by omega, sec ⟨HRC.out.pop HV.out, HYL.out, HYS.out, HSS.out⟩, sec ⟨HW.out, HM.out.2⟩⟩
        case measure => omega
      have hlk : (seenF S x).getD false = false := by rw [seenF_get, decide_eq_false hxS]
      have HNS := sec hxS
      have HTx : Sec (∀ W, Gr w W → Calls Tryz.prog g (#[.string (bs x)] ++ caps) W fun e w' => e = .returned (.tuple #[.string (bs (G x).1), .int .i64 (G x).2]) ∧ Gr W w') := sec (fun W h => HT.out W x h hx40)
      have HGx := HGL.out x
      obtain ⟨⟨s, er⟩, hGx⟩ : ∃ r, r = G x := ⟨_, rfl⟩
      rw [← hGx] at HTx HGx
      simp only at HTx HGx
      have HE : Sec (G x = (s, er)) := sec hGx.symm
      clear hGx hxS
      by_cases her : er = 0
      case neg =>
        have qer : (er != 0) = true := by rw [bne_iff_ne]; exact her
        have HL : Sec ((G x).2 ≠ 0) := sec (by rw [HE.out]; exact her)
        clear her
        go_wp2_with (first
          | (refine wpList_look1 MB rfl (.tmp 33) (.tmp 34) rfl rfl HM.out.2.1 rfl hxl hlk ?_)
          | (refine Calls.mono (HTx.out wr HM.out.2.2.1) ?_; rintro e w2 ⟨rfl, g2⟩))
        go_roundg (gk - 1)
        case rel => exact ⟨ys, S, m', _, d, true, wg, rfl, rfl, rfl, by omega, hS, by omega, sec ⟨HRC.out.lack HL.out, HYL.out, HYS.out, HSS.out⟩, sec ⟨HW.out.gr g2, HM.out.2.1.gr g2, HM.out.2.2.1.trans g2, Nat.le_trans HM.out.2.2.2 g2.size⟩⟩
        case measure => omega
      subst her
      have qer : ((0 : Int) != 0) = false := by decide
      have HD : Sec (∀ W, Calls Tryz.prog 54 #[.string (bs s)] W (DecPost W (obD s))) := sec (fun W => obDec_any s W (by omega))
      have HZ : Sec (ObSz 1099511627776 (obD s).1) := sec (obD_sz s (by omega)).1
      have HE2 : Sec ((G x).2 = 0 ∧ (obD (G x).1) = obD s) := sec (by rw [HE.out]; exact ⟨rfl, rfl⟩)
      have HLK : Sec ((obD s).2 = 0 → lkT G x = obLk (obD s).1 ∧ (obLk (obD s).1).length ≤ 64 ∧ ∀ y ∈ obLk (obD s).1, y.length ≤ 32) := sec (fun h => by
        have h1 := lkT_le (G := G) (x := x) ⟨HE2.out.1, by rw [HE2.out.2]; exact h⟩
        unfold lkT at h1 ⊢
        rw [HE2.out.2] at h1 ⊢
        exact ⟨rfl, h1⟩)
      obtain ⟨⟨o, oe⟩, hO⟩ : ∃ r, r = obD s := ⟨_, rfl⟩
      rw [← hO] at HD HZ HE2 HLK
      simp only at HZ HLK
      clear hO HE
      have HSTORE : Sec (True) := sec trivial
      by_cases hoe : oe = 0
      case neg =>
        have qoe : (oe != 0) = true := by rw [bne_iff_ne]; exact hoe
        have HW2 : Sec ((obD (G x).1).2 ≠ 0) := sec (by rw [HE2.out.2]; exact hoe)
        clear hoe HLK
        go_wp2_with (first
          | (refine wpList_look1 MB rfl (.tmp 33) (.tmp 34) rfl rfl HM.out.2.1 rfl hxl hlk ?_)
          | (go_at_call 54; (with_reducible refine Calls.mono (HD.out _) ?_); rintro e w3 ⟨A3, c3, B3, d3, rfl, r3, g3⟩)
          | (refine wpList_store_blk rfl 91 (.tmp 13) (.tmp 47) rfl (g := w3.heap.size) (cs' := obA o A3 c3 B3 d3) rfl rfl (Blk.new w3 _ _) aggOb rfl (obA_one _ _ _ _ _) ?_; intro w4 h4 hg4)
          | (refine Calls.mono (HTx.out wr HM.out.2.2.1) ?_; rintro e w2 ⟨rfl, g2⟩))
        have g4 : Gr wr w4 := (g2.trans g3).trans (Gr.only ((Gr.refl w3).alloc _) hg4 (Nat.le_refl _))
        go_roundg (gk - 1)
        case rel => exact ⟨ys, S, m', _, d, lk, true, rfl, rfl, rfl, by omega, hS, by omega, sec ⟨HRC.out.wrongd HE2.out.1 HW2.out, HYL.out, HYS.out, HSS.out⟩, sec ⟨HW.out.gr g4, HM.out.2.1.gr g4, HM.out.2.2.1.trans g4, Nat.le_trans HM.out.2.2.2 g4.size⟩⟩
        case measure => omega
      subst hoe
      have HOK : Sec (okT G x) := sec ⟨HE2.out.1, by rw [HE2.out.2]⟩
      by_cases hfu : 400 ≤ S.length
      · have qfu : (400 : Int) ≤ (S.length : Int) := by omega
        have HBG : Sec (Big G ids) := sec ((HRC.out.seen HNS.out HOK.out).big (by rw [List.length_append]; simp; omega))
        clear hfu HLK
        go_wp2_with (first
          | (refine wpList_look1 MB rfl (.tmp 33) (.tmp 34) rfl rfl HM.out.2.1 rfl hxl hlk ?_)
          | (go_at_call 54; (with_reducible refine Calls.mono (HD.out _) ?_); rintro e w3 ⟨A3, c3, B3, d3, rfl, r3, g3⟩)
          | (refine wpList_store_blk rfl 91 (.tmp 13) (.tmp 47) rfl (g := w3.heap.size) (cs' := obA o A3 c3 B3 d3) rfl rfl (Blk.new w3 _ _) aggOb rfl (obA_one _ _ _ _ _) ?_; intro w4 h4 hg4)
          | (refine wpList_mlen MB rfl (.tmp 51) rfl rfl (HM.out.2.1.gr ((g2.trans g3).trans (Gr.only ((Gr.refl w3).alloc _) hg4 (Nat.le_refl _)))) ?_)
          | (refine Calls.mono (HTx.out wr HM.out.2.2.1) ?_; rintro e w2 ⟨rfl, g2⟩))
        have g4 : Gr wr w4 := (g2.trans g3).trans (Gr.only ((Gr.refl w3).alloc _) hg4 (Nat.le_refl _))
        go_ret2
        exact ⟨[], none, 0, 0, 6, .inl ⟨HBG.out, rfl⟩, rfl, Row.nil _ _ _, fun _ => ⟨rfl, rfl⟩, Nat.le_refl _, by simp, HM.out.2.2.1.trans g4⟩
      have qfu : ¬ (400 : Int) ≤ (S.length : Int) := by omega
      obtain ⟨hL1, hL2, hL3⟩ := HLK.out rfl
      have HL1 := sec hL1
      have HL3 := sec hL3
      have hSm : S.length < maxLen := by unfold maxLen; omega
      obtain ⟨Lk, hLk⟩ : ∃ L, L = obLk o := ⟨_, rfl⟩
      have HLi : Sec (∀ A c B d W, ObR W o A c B d → Calls Tryz.prog 55 #[.agg (obA o A c B d)] W (LkPost W Lk)) := sec (fun A c B d W h => by rw [hLk]; exact obLinks_any o A c B d W h HZ.out)
      rw [← hLk] at hL2 HL1 HL3
      have hmS : m' ≤ 1099511627776 + 64 * 401 := by omega
      clear hL1 hL3 hLk HLK hfu
      go_wp2_with (first
        | (refine wpList_look1 MB rfl (.tmp 33) (.tmp 34) rfl rfl HM.out.2.1 rfl hxl hlk ?_)
        | (go_at_call 54; (with_reducible refine Calls.mono (HD.out _) ?_); rintro e w3 ⟨A3, c3, B3, d3, rfl, r3, g3⟩)
        | (refine wpList_store_blk rfl 91 (.tmp 13) (.tmp 47) rfl (g := w3.heap.size) (cs' := obA o A3 c3 B3 d3) rfl rfl (Blk.new w3 _ _) aggOb rfl (obA_one _ _ _ _ _) ?_; intro w4 h4 hg4; have z34 : Gr w3 w4 := Gr.only ((Gr.refl w3).alloc _) hg4 (Nat.le_refl _); have g4 : Gr wr w4 := (g2.trans g3).trans z34; have M4 := sec (HM.out.2.1.gr g4))
        | (refine wpList_mlen MB rfl (.tmp 51) rfl rfl M4.out ?_)
        | (refine wpList_mput MB rfl (.tmp 54) (.tmp 55) (.const (.bool true)) rfl rfl M4.out hSm rfl hxl (y := true) rfl trivial ?_; intro w5 m5 h5; have M5 := sec m5; clear m5; have H4 := sec (And.intro h4 (r3.gr z34)); have hne5 : w3.heap.size ≠ b := (by have := HM.out.2.1.lt; have := (g2.trans g3).size; omega))
        | (refine wpList_load_blk rfl 91 (.tmp 13) rfl (g := w3.heap.size) rfl (cs := obA o A3 c3 B3 d3) (H4.out.1.only h5 hne5) aggOb ?_)
        | (go_at_call 55; (with_reducible refine Calls.mono (HLi.out A3 c3 B3 d3 _ (H4.out.2.aside M4.out h5)) ?_); rintro e w6 ⟨A6, c6, n6, rfl, rfl, r6, hA6, hc6, g6⟩; have W6 := ((HW.out.gr g4).apart h5 (by intro k hk; injection hk with hk; subst hk; exact HBA.out)).gr g6; have S6 : wa.heap.size ≤ w6.heap.size := Nat.le_trans HM.out.2.2.2 (Nat.le_trans g4.size (Nat.le_trans h5.size g6.size)); have hb6 : (m' + Lk.length) * 16 ≤ 140737488355328 := (by omega); have h66 : m' + Lk.length ≤ maxLen := (by unfold maxLen; omega))
        | (at_builtin; refine wpList_append_win E.str rfl (.tmp 56) (.tmp 58) rfl rfl W6 rfl r6 hA6 (fun v hv => by obtain ⟨l, _, rfl⟩ := List.mem_map.1 hv; rfl) hb6 h66 S6 ?_; intro A7 c7 w7 W7 b7)
        | (refine Calls.mono (HTx.out wr HM.out.2.2.1) ?_; rintro e w2 ⟨rfl, g2⟩))
      go_roundg (gk - 1)
      case rel =>
        refine ⟨ys ++ Lk, S ++ [x], m' + Lk.length, A7, c7, lk, wg, rfl, rfl, rfl, ?_, ?_, ?_, sec ⟨?_, ?_, ?_, ?_⟩, sec ⟨?_, ?_, ?_, ?_⟩⟩
        · rw [List.length_append]; simp only [List.length_cons, List.length_nil]; omega
        · rw [List.length_append]; simp only [List.length_cons, List.length_nil]; omega
        · rw [List.length_append]; simp only [List.length_cons, List.length_nil]; omega
        · have h1 := HRC.out.seen HNS.out HOK.out
          rw [HL1.out] at h1
          exact h1.perm (fun y => by simp only [List.reverse_append, List.mem_append, List.mem_reverse]; exact Or.comm)
        · rw [List.length_append, HYL.out]
        · intro y hy
          rcases List.mem_append.1 hy with hy | hy
          · exact HYS.out y hy
          · have := HL3.out y hy; omega
        · intro y hy
          rcases List.mem_append.1 hy with hy | hy
          · exact HSS.out y hy
          · simp only [List.mem_singleton] at hy; subst hy; exact hx40
        · rw [List.map_append]; exact W7
        · have h1 := (M5.out.gr g6).below b7 HBA.out
          rw [seenF_put, seenF_cnt HNS.out] at h1
          exact h1
        · exact Gr.low (Gr.trans (Gr.only (HM.out.2.2.1.trans g4) h5 (by rw [HB.out]; exact Nat.le_refl _)) g6) b7 (Nat.le_of_lt (by have := HBA.out; rw [HB.out] at this; exact this))
        · exact Nat.le_trans S6 b7.size
      case measure => omega
    · obtain rfl : m = 0 := by omega
      obtain rfl : W = [] := List.eq_nil_of_length_eq_zero HR.out.2.1
      have HSP : Sec (RcSpec G ids (if lk = true then ([], 7) else if wg = true then ([], 2) else (S.mergeSort fun x y => decide (x ≤ y), 0))) := sec (by
        have h1 := rising_sort HR.out.1.nd
        exact HR.out.1.spec hS h1.1 h1.2.1)
      have HSS : Sec (∀ y ∈ S, y.length ≤ maxLen) := sec (fun y hy => by have := HR.out.2.2.2 y hy; unfold maxLen; omega)
      have HSN := sec HR.out.1.nd
      clear HR hm
      cases lk with
      | true =>
        have HQ : Sec (RcSpec G ids ([], 7)) := sec (by have := HSP.out; rwa [if_pos rfl] at this)
        go_wp2_with fail
        go_ret2
        exact ⟨[], none, 0, 0, 7, HQ.out, rfl, Row.nil _ _ _, fun _ => ⟨rfl, rfl⟩, Nat.le_refl _, by simp, HM.out.2.2.1⟩
      | false =>
        cases wg with
        | true =>
          have HQ : Sec (RcSpec G ids ([], 2)) := sec (by have := HSP.out; rwa [if_neg (by decide), if_pos rfl] at this)
          go_wp2_with fail
          go_ret2
          exact ⟨[], none, 0, 0, 2, HQ.out, rfl, Row.nil _ _ _, fun _ => ⟨rfl, rfl⟩, Nat.le_refl _, by simp, HM.out.2.2.1⟩
        | false =>
          have HSP2 : Sec (∀ L : List (List UInt8), L.Nodup → (∀ y, y ∈ L ↔ y ∈ S) → RcSpec G ids (L.mergeSort fun x y => decide (x ≤ y), 0) ∧ L.length = S.length) := sec (fun L hn hm => by
            have h1 := rising_sort hn
            have h2 := rising_sort HSN.out
            have h3 := HSP.out
            rw [if_neg (by decide), if_neg (by decide)] at h3
            rw [← rising_ext _ _ h1.1 h2.1 (fun y => by rw [h1.2.1, h2.2.1]; exact hm y)] at h3
            exact ⟨h3, Nat.le_antisymm (nodup_sub L S hn (fun y hy => (hm y).1 hy)) (nodup_sub S L HSN.out (fun y hy => (hm y).2 hy))⟩)
          clear HSP HSN
          have HMM := sec HM.out.2.1
          have HGG := sec HM.out.2.2.1
          clear HM
          go_upto_region 24 with (refine wpList_mrange MB rfl (.tmp 62) rfl rfl HMM.out ?_; intro w2 m2 g2 z2)
          go_frame
          have HR2 := sec m2
          have G2 := sec (HGG.out.trans g2)
          obtain ⟨r, hr⟩ : ∃ r, r = wr.heap.size := ⟨_, rfl⟩
          rw [← hr] at HR2
          rw [← hr]
          have hbr : b < w2.heap.size := by have := HMM.out.lt; omega
          have hrr : r < w2.heap.size := by omega
          have hwr : w.heap.size ≤ r := by rw [hr]; exact HGG.out.size
          clear hr z2 m2 g2 HMM HGG
          obtain ⟨B2, hB2⟩ : ∃ x, x = w2.heap.size := ⟨_, rfl⟩
          rw [← hB2] at hbr hrr
          have HBN := sec (show B2 ≤ w2.heap.size by omega)
          clear hB2
          go_loopg [14] (S.length + 1) (fun fuel lv wx => ∃ (L : List (List UInt8)) (m : Nat) (C : Option Addr) (d2 : Nat) (left : List UInt8 → Bool) (cnt : Nat), lv = .slice C m d2 ∧ cnt + 1 ≤ fuel ∧ Sec (Outs S L left ∧ m = L.length) ∧
              Sec (RanAt 9 4 Lit.bool wx b r S.length (seenF S) left cnt ∧ wx.ownsRow B2 9 1 (.slice C m d2) m (L.map strV) ∧ Gr w wx ∧ B2 ≤ wx.heap.size))
          case atStart => exact ⟨[], 0, none, 0, _, _, rfl, Nat.le_refl _, sec ⟨Outs.start HSS.out, rfl⟩, sec ⟨HR2.out, World.ownsRow_nil _ _ _ _, G2.out, HBN.out⟩⟩
          case round =>
            clear HR2 G2 HBN
            obtain ⟨L, m, C, d2, left, cnt, rfl, hf, HO, HM⟩ := hrel
            have hm4 : m ≤ 400 := by have := HO.out.1.le; have := HO.out.2; omega
            have HRan := sec HM.out.1
            go_wp2_with (refine wpList_mnext MB rfl (.tmp 63) rfl rfl HRan.out ?_ ?_)
            · intro hl0
              have hLS := HO.out.1.done hl0
              have HSo : Sec (∀ W, W.ownsRow B2 9 1 (.slice C m d2) m (L.map strV) → Calls Tryz.prog 56 #[.slice C m d2] W fun e w' => e = .returned (.tuple #[]) ∧ w'.ownsRow B2 9 1 (.slice C m d2) m ((L.mergeSort fun x y => decide (x ≤ y)).map strV) ∧ W.grownBy w' (Value.slice C m d2).ownBlock) := sec (fun W h => sortS_any L C m d2 B2 W h (by omega))
              have HEND := sec (HSP2.out L HO.out.1.nd hLS)
              obtain ⟨L2, hL2⟩ : ∃ x, x = L.mergeSort fun x y => decide (x ≤ y) := ⟨_, rfl⟩
              have HL2 : Sec (L2.length = L.length) := sec (by rw [hL2]; simp)
              rw [← hL2] at HSo HEND
              clear hL2 hl0 hLS HSP2
              go_wp2_with (go_at_call 56; (with_reducible refine Calls.mono (HSo.out _ HM.out.2.1) ?_); rintro e w3 ⟨rfl, o3, k3⟩)
              go_ret2
              exact ⟨L2, C, m, d2, 0, HEND.out.1, rfl, Row.own o3, own_nilK o3, own_capK o3, by have := HL2.out; have := HO.out.2; omega, HM.out.2.2.1.grown k3 (fun k hk => Nat.le_trans hwr (Nat.le_of_lt (Nat.lt_of_lt_of_le hrr (o3.lt k hk).1)))⟩
            · intro l
              refine And.intro (fun w3 cnt' _ _ hfl => ?_) ?_
              · unfold seenF at hfl
                split at hfl
                · injection hfl with hfl; cases hfl
                · cases hfl
              intro w3 cnt' hll hleft hfl hran hlt hgr hsz hen
              have HEn := sec hen
              have HR3 := sec hran
              have o3 := sec (HM.out.2.1.kept hgr (.inr (fun e => row_ne_low HM.out.2.1 hrr e.symm)))
              have hb6 : (m + 1) * 16 ≤ 140737488355328 := by omega
              have h66 : m + 1 ≤ maxLen := by unfold maxLen; omega
              have S3 : B2 ≤ w3.heap.size := by rw [hsz]; exact HM.out.2.2.2
              have G3 : Gr w w3 := HM.out.2.2.1.grown hgr (fun k hk => by injection hk with hk; omega)
              clear hran hgr hsz
              go_wp2_with (at_builtin; refine wpList_append_oneB E.str rfl (.tmp 68) (.tmp 70) rfl rfl o3.out rfl rfl hb6 h66 S3 ?_; intro g5 c5 w5 o5 hg5)
              go_roundg (gk - 1)
              case rel =>
                have h1 := nodup_push HO.out.1.nd (HO.out.1.fresh hleft)
                refine ⟨L ++ [l], m + 1, some ⟨g5, 0, none⟩, c5, _, cnt', rfl, by omega, sec ⟨HO.out.1.put hll hleft h1.1 h1.2, by rw [HO.out.2, List.length_append]; rfl⟩, sec ⟨HR3.out.kept hg5 (row_ne_low o3.out hbr) (row_ne_low o3.out hrr), ?_, G3.grown hg5 (fun k hk => ?_), Nat.le_trans S3 hg5.size⟩⟩
                · rw [List.map_append]; exact o5
                · exact Nat.le_trans hwr (Nat.le_of_lt (Nat.lt_of_lt_of_le hrr (o3.out.lt k hk).1))
              case measure => omega
end Go.Proofs.YtoamnifnfkgbiaaGreatDoor

namespace Go.Proofs.YtoamnifnfkgbiaaGreatDoor
open Go.RowKit
set_option linter.unusedVariables false
set_option maxRecDepth 100000 in
set_option maxHeartbeats 1000000 in
theorem start_any (w : World) : Calls Tryz.prog 100 #[] w fun e w' => e = .returned (.agg (s8V startS)) ∧ Gr w w' := by
  go_enter Tryz.func100, Tryz.ntmps100
  go_wp2
  exact bodyPost_ret (v := .agg (s8V startS)) (by simp [results, Tryz.results100, go_sem]; rfl) rfl ⟨rfl, (Gr.refl w).alloc _⟩

theorem be4_len (x : UInt32) : (be4 x).length = 4 := rfl
/-- three bytes and a half: a row of four bytes just built, as a string -/
theorem conv_four (w : World) (x : UInt32) :
    (convert 140 9 (.slice (some ⟨w.heap.size, 0, none⟩) 4 4)).run Tryz.prog (w.alloc (.cells #[.int .u8 ((x.toNat : Int) / 16777216), .int .u8 ((x.toNat : Int) / 65536 % 256), .int .u8 ((x.toNat : Int) / 256 % 256), .int .u8 ((x.toNat : Int) % 256)] 5)) =
      .ok (.string (bs (be4 x))) (w.alloc (.cells #[.int .u8 ((x.toNat : Int) / 16777216), .int .u8 ((x.toNat : Int) / 65536 % 256), .int .u8 ((x.toNat : Int) / 256 % 256), .int .u8 ((x.toNat : Int) % 256)] 5)) := by
  refine run_conv_at Tryz.underlying140 Tryz.underlying5 Tryz.underlying9 _ _ 0 4 (be4 x) ?_
  intro j u hu
  rw [← be4_cells] at hu
  rw [Nat.zero_add, World.cell?_alloc_mark]
  simpa using hu

set_option maxRecDepth 100000 in
set_option maxHeartbeats 1000000 in
theorem rtext_any (S : S8) (w : World) : Calls Tryz.prog 98 #[.agg (s8V S)] w fun e w' => e = .returned (.string (bs (text8 S))) ∧ Gr w w' := by
  go_enter Tryz.func98, Tryz.ntmps98
  go_wp2_with (refine wpList_load_blk rfl 135 (.tmp 1) rfl (g := w.heap.size) rfl (Blk.new w _ _) A.u8 ?_)
  go_loopw [3, 7, 5] (fun v iv _ wr => ∃ (j : Nat) (l : List UInt8), iv = .int .i64 j ∧ j ≤ 8 ∧ v = .string (bs l) ∧ l.length ≤ 4 * j ∧ Sec (l = (S.list.take j).flatMap be4) ∧ Gr w wr)
    (fun _ iv _ _ => 8 - (intOf iv).toNat)
  case atStart => exact ⟨0, [], rfl, by omega, rfl, by simp, sec rfl, (Gr.refl w).alloc _⟩
  case round =>
    obtain ⟨j, l, rfl, hj, rfl, hll, HL, hg⟩ := hrel
    have hcase : j = 0 ∨ j = 1 ∨ j = 2 ∨ j = 3 ∨ j = 4 ∨ j = 5 ∨ j = 6 ∨ j = 7 ∨ j = 8 := by omega
    clear hj
    unfold s8V
    rcases hcase with rfl | rfl | rfl | rfl | rfl | rfl | rfl | rfl | rfl
    · have i0 := index_s8_0 S
      have hx := S.a.toNat_lt
      have hcv := conv_four wr S.a
      have h63 : ¬ 9223372036854775807 < l.length + (be4 S.a).length := by rw [be4_len]; omega
      go_wp2_with fail
      go_roundw
      case rel => exact ⟨1, l ++ be4 S.a, rfl, by omega, rfl, by rw [List.length_append, be4_len]; omega, sec (by rw [HL.out]; rfl), hg.alloc _⟩
      case measure => simp [intOf]
    · have i0 := index_s8_1 S
      have hx := S.b.toNat_lt
      have hcv := conv_four wr S.b
      have h63 : ¬ 9223372036854775807 < l.length + (be4 S.b).length := by rw [be4_len]; omega
      go_wp2_with fail
      go_roundw
      case rel => exact ⟨2, l ++ be4 S.b, rfl, by omega, rfl, by rw [List.length_append, be4_len]; omega, sec (by rw [HL.out]; rfl), hg.alloc _⟩
      case measure => simp [intOf]
    · have i0 := index_s8_2 S
      have hx := S.c.toNat_lt
      have hcv := conv_four wr S.c
      have h63 : ¬ 9223372036854775807 < l.length + (be4 S.c).length := by rw [be4_len]; omega
      go_wp2_with fail
      go_roundw
      case rel => exact ⟨3, l ++ be4 S.c, rfl, by omega, rfl, by rw [List.length_append, be4_len]; omega, sec (by rw [HL.out]; rfl), hg.alloc _⟩
      case measure => simp [intOf]
    · have i0 := index_s8_3 S
      have hx := S.d.toNat_lt
      have hcv := conv_four wr S.d
      have h63 : ¬ 9223372036854775807 < l.length + (be4 S.d).length := by rw [be4_len]; omega
      go_wp2_with fail
      go_roundw
      case rel => exact ⟨4, l ++ be4 S.d, rfl, by omega, rfl, by rw [List.length_append, be4_len]; omega, sec (by rw [HL.out]; rfl), hg.alloc _⟩
      case measure => simp [intOf]
    · have i0 := index_s8_4 S
      have hx := S.e.toNat_lt
      have hcv := conv_four wr S.e
      have h63 : ¬ 9223372036854775807 < l.length + (be4 S.e).length := by rw [be4_len]; omega
      go_wp2_with fail
      go_roundw
      case rel => exact ⟨5, l ++ be4 S.e, rfl, by omega, rfl, by rw [List.length_append, be4_len]; omega, sec (by rw [HL.out]; rfl), hg.alloc _⟩
      case measure => simp [intOf]
    · have i0 := index_s8_5 S
      have hx := S.f.toNat_lt
      have hcv := conv_four wr S.f
      have h63 : ¬ 9223372036854775807 < l.length + (be4 S.f).length := by rw [be4_len]; omega
      go_wp2_with fail
      go_roundw
      case rel => exact ⟨6, l ++ be4 S.f, rfl, by omega, rfl, by rw [List.length_append, be4_len]; omega, sec (by rw [HL.out]; rfl), hg.alloc _⟩
      case measure => simp [intOf]
    · have i0 := index_s8_6 S
      have hx := S.g.toNat_lt
      have hcv := conv_four wr S.g
      have h63 : ¬ 9223372036854775807 < l.length + (be4 S.g).length := by rw [be4_len]; omega
      go_wp2_with fail
      go_roundw
      case rel => exact ⟨7, l ++ be4 S.g, rfl, by omega, rfl, by rw [List.length_append, be4_len]; omega, sec (by rw [HL.out]; rfl), hg.alloc _⟩
      case measure => simp [intOf]
    · have i0 := index_s8_7 S
      have hx := S.h.toNat_lt
      have hcv := conv_four wr S.h
      have h63 : ¬ 9223372036854775807 < l.length + (be4 S.h).length := by rw [be4_len]; omega
      go_wp2_with fail
      go_roundw
      case rel => exact ⟨8, l ++ be4 S.h, rfl, by omega, rfl, by rw [List.length_append, be4_len]; omega, sec (by rw [HL.out]; rfl), hg.alloc _⟩
      case measure => simp [intOf]
    · go_wp2_with fail
      go_ret
      exact ⟨by rw [HL.out]; rfl, hg⟩

set_option maxRecDepth 100000 in
set_option maxHeartbeats 1000000 in
theorem over_any (s : S8) (b : List UInt8) (w : World) (hb : b.length < 4611686018427387904) (hm : b.length % 64 = 0) :
    Calls Tryz.prog 99 #[.agg (s8V s), .string (bs b)] w fun e w' => e = .returned (.agg (s8V (overS s b))) ∧ Gr w w' := by
  have HM := sec hm
  clear hm
  have hz : Blk ((w.alloc (.cells (s8V s) 135)).alloc (.cells zero8 135)) (w.heap.size + 1) 135 zero8 := Blk.new1 w _ _ _
  have hx : Blk ((w.alloc (.cells (s8V s) 135)).alloc (.cells zero8 135)) w.heap.size 135 (s8V s) := (Blk.new w _ _).alloc _
  have HZ := sec hz
  have HX := sec hx
  clear hz hx
  go_enter Tryz.func99, Tryz.ntmps99
  go_wp2_with fail
  go_loopw [5] (fun v wr => ∃ (i : Nat) (S : S8), v = .int .i64 (64 * (i : Int)) ∧ 64 * i ≤ b.length ∧ Sec (overS S (b.drop (64 * i)) = overS s b) ∧ Blk wr w.heap.size 135 (s8V S) ∧ Blk wr (w.heap.size + 1) 135 zero8 ∧ Gr w wr)
    (fun v _ => b.length - (intOf v).toNat)
  case atStart => exact ⟨0, s, rfl, by omega, sec (by rw [Nat.mul_zero, List.drop_zero]), HX.out, HZ.out, ((Gr.refl w).alloc _).alloc _⟩
  case round =>
    obtain ⟨i, S, rfl, hi, HO, hS, hZ, hg⟩ := hrel
    by_cases hlt : 64 * i < b.length
    · have hlt' : 64 * i + 64 ≤ b.length := by have := HM.out; omega
      have q64 : IntKind.i64.wrap (64 * (i : Int) + 64) = 64 * (i : Int) + 64 := IntWalk.i64_in _ (by omega)
      have hli : 64 * (i : Int) < (b.length : Int) := by omega
      have hl2 : 64 * (i : Int) + 64 ≤ (b.length : Int) := by omega
      have hi0 : (0 : Int) ≤ 64 * (i : Int) := by omega
      have hi1 : (0 : Int) ≤ 64 * (i : Int) + 64 := by omega
      have hi2 : 64 * (i : Int) ≤ 64 * (i : Int) + 64 := by omega
      have ht1 : (64 * (i : Int)).toNat = 64 * i := by omega
      have ht2 : (64 * (i : Int) + 64).toNat = 64 * i + 64 := by omega
      go_wp2_with fail
      refine region_still_tail_w 6 (by kernel_rfl) (by kernel_rfl) ?_
      simp only [List.take_succ_cons, List.take_zero, List.drop_succ_cons, List.drop_zero]
      intro wd hwd
      have D2 : Blk wd w.heap.size 135 (s8V S) := by subst hwd; exact hS.drew
      have D4 : Blk wd (w.heap.size + 1) 135 zero8 := by subst hwd; exact hZ.drew
      have Dg : Gr w wd := by subst hwd; exact hg.drew
      clear hwd hS hZ hg
      have c0 : wd.cell? ⟨w.heap.size, 0, none⟩ = some (.int .u32 (S.a.toNat : Int)) := D2.cell 0
      have c1 : wd.cell? ⟨w.heap.size, 1, none⟩ = some (.int .u32 (S.b.toNat : Int)) := D2.cell 1
      have c2 : wd.cell? ⟨w.heap.size, 2, none⟩ = some (.int .u32 (S.c.toNat : Int)) := D2.cell 2
      have c3 : wd.cell? ⟨w.heap.size, 3, none⟩ = some (.int .u32 (S.d.toNat : Int)) := D2.cell 3
      have c4 : wd.cell? ⟨w.heap.size, 4, none⟩ = some (.int .u32 (S.e.toNat : Int)) := D2.cell 4
      have c5 : wd.cell? ⟨w.heap.size, 5, none⟩ = some (.int .u32 (S.f.toNat : Int)) := D2.cell 5
      have c6 : wd.cell? ⟨w.heap.size, 6, none⟩ = some (.int .u32 (S.g.toNat : Int)) := D2.cell 6
      have c7 : wd.cell? ⟨w.heap.size, 7, none⟩ = some (.int .u32 (S.h.toNat : Int)) := D2.cell 7
      repeat still_step
      refine wpStill_nil ?_
      clear c0 c1 c2 c3 c4 c5 c6 c7
      have hsub : sub b (64 * i) (64 * i + 64) = (b.drop (64 * i)).take 64 := by unfold sub; congr 1; omega
      have hsl : (sub b (64 * i) (64 * i + 64)).length = 64 := by rw [sub_len _ _ _ hlt']; omega
      obtain ⟨B, hB⟩ : ∃ B, B = sub b (64 * i) (64 * i + 64) := ⟨_, rfl⟩
      rw [← hB] at hsub hsl ⊢
      obtain ⟨R, hR⟩ : ∃ R, R = blockS S B := ⟨_, rfl⟩
      have HO2 : Sec (overS R (b.drop (64 * (i + 1))) = overS s b) := sec (by
        rw [← HO.out, overS_hi (b := b.drop (64 * i)) (by rw [List.length_drop]; omega), ← hsub, ← hR, List.drop_drop, Nat.mul_add])
      have HSL := sec hsl
      clear hB hsub hsl
      go_wp2_with (first
        | (refine wpList_store_blk rfl 135 (.tmp 2) (.tmp 18) rfl (g := w.heap.size) rfl rfl E2 A.u8 rfl (s8V_one R) ?_; intro w4 h4 hg4)
        | (go_at_call 157; refine (rblock_any S B _ HSL.out).mono ?_; rw [← hR]; rintro e w3 ⟨rfl, g3⟩; clear hR; have E2 := D2.gr g3; have E4 := D4.gr g3; have Eg := Dg.trans g3; clear g3))
      go_roundw
      case rel => exact ⟨i + 1, R, by go_num, by omega, HO2, h4, E4.only hg4 (by omega), Eg.only hg4 (Nat.le_refl _)⟩
      case measure => simp [intOf]; omega
    · have hnl : b.drop (64 * i) = [] := List.drop_eq_nil_of_le (by omega)
      have HE : Sec (S = overS s b) := sec (by rw [← HO.out, hnl, overS_lo (by simp)])
      have hli : ¬ 64 * (i : Int) < (b.length : Int) := by omega
      clear hnl HO
      go_wp2_with (first
        | (refine wpList_load_blk rfl 135 (.tmp 2) rfl (g := w.heap.size) rfl hS A.u8 ?_)
        | (refine wpList_store_blk rfl 135 (.tmp 4) (.tmp 19) rfl (g := w.heap.size + 1) rfl rfl hZ A.u8 rfl (s8V_one S) ?_; intro w4 h4 hg4))
      refine bodyPost_ret (results_blk rfl _ rfl h4 A.u8) rfl ?_
      rw [HE.out]
      exact ⟨rfl, hg.only hg4 (by omega)⟩
end Go.Proofs.YtoamnifnfkgbiaaGreatDoor

namespace Go.Proofs.YtoamnifnfkgbiaaGreatDoor
open Go.RowKit
set_option linter.unusedVariables false
/-- the eight bytes while they are filled, from behind -/
def pByte (m e : Nat) : Value := .int .u8 ((8 * m / 256 ^ e % 256 : Nat) : Int)
def pArr (m j : Nat) : Array Value := ((List.range 8).map fun i => if 8 - j ≤ i then pByte m (7 - i) else .int .u8 0).toArray
theorem pArr_size (m j : Nat) : (pArr m j).size = 8 := by unfold pArr; simp
theorem pArr_zero (m : Nat) : pArr m 0 = #[.int .u8 0, .int .u8 0, .int .u8 0, .int .u8 0, .int .u8 0, .int .u8 0, .int .u8 0, .int .u8 0] := by kernel_rfl
theorem pArr_set (m j : Nat) (hj : j < 8) : (pArr m j).setIfInBounds (7 - j) (pByte m j) = pArr m (j + 1) := by
  unfold pArr
  rw [List.setIfInBounds_toArray]
  congr 1
  apply List.ext_getElem
  · simp
  · intro i h1 h2
    rw [List.getElem_set]
    simp only [List.getElem_map, List.getElem_range, List.length_set, List.length_map, List.length_range] at h1 ⊢
    by_cases e : 7 - j = i
    · subst e
      rw [if_pos rfl, if_pos (by omega), show 7 - (7 - j) = j by omega]
    · rw [if_neg e]
      by_cases h : 8 - j ≤ i
      · rw [if_pos h, if_pos (by omega)]
      · rw [if_neg h, if_neg (by omega)]
theorem pArr_full (m : Nat) : (pArr m 8).toList = (be8 (8 * m)).map byteV := by
  simp [pArr, List.range_succ, be8, byteV, pByte]

set_option maxRecDepth 100000 in
set_option maxHeartbeats 2000000 in
theorem padded_any (r : List UInt8) (m : Nat) (w : World) (hr : r.length < 1152921504606846976) (hm : m < 1152921504606846976) :
    Calls Tryz.prog 101 #[.string (bs r), .int .i64 m] w fun e w' => e = .returned (.string (bs (padTo r m))) ∧ Gr w w' := by
  have hr1 : ¬ 9223372036854775807 < r.length + 1 := by omega
  have hz := Blk.new w 183 (pArr m 0)
  rw [pArr_zero] at hz
  have HZ := sec hz
  clear hz
  go_enter Tryz.func101, Tryz.ntmps101
  go_wp2_with fail
  go_loop [5] (fun v => ∃ (i : Nat) (l : List UInt8), v = .string (bs l) ∧ i ≤ zerosFor r.length ∧ Sec (l = r ++ [128] ++ List.replicate i 0))
    (fun v => 1152921504606847200 - lenOf v)
  case atStart => exact ⟨0, r ++ [128], rfl, Nat.zero_le _, sec (by simp)⟩
  case round =>
    obtain ⟨i, l, rfl, hi, HL⟩ := hrel
    have hz : zerosFor r.length = (119 - r.length % 64) % 64 := rfl
    have hll : l.length = r.length + 1 + i := by rw [HL.out]; simp; omega
    by_cases hlt : i < zerosFor r.length
    · have t1 : ((l.length : Int) % 64 == 56) = false := by rw [beq_eq_false_iff_ne]; omega
      have t2 : ((l.length : Int) % 64 != 56) = true := by rw [bne_iff_ne]; omega
      have hl200 : l.length < 1152921504606847190 := by omega
      have h63 : ¬ 9223372036854775807 < l.length + 1 := by omega
      have HI := sec hlt
      clear hz hll hlt hi
      go_wp2_with fail
      go_round
      case rel =>
        exact ⟨i + 1, l ++ [0], rfl, HI.out, sec (by rw [HL.out, List.append_assoc, ← List.replicate_succ'])⟩
      case measure => simp [lenOf, bs_size]; omega
    · obtain rfl : i = zerosFor r.length := by omega
      have t1 : ((l.length : Int) % 64 == 56) = true := by rw [beq_iff_eq]; omega
      have t2 : ((l.length : Int) % 64 != 56) = false := by rw [bne_eq_false_iff_eq]; omega
      have hl63 : ¬ 9223372036854775807 < l.length + 8 := by omega
      clear hz hll hlt hi
      have hm8 : (m : Int) * 8 < 18446744073709551616 := by omega
      go_wp2_with fail
      clear t1 t2
      have hl8 : m * 8 = 8 * m / 256 ^ 0 := by omega
      have HN0 : Sec (m * 8 = 8 * m / 256 ^ 0) := sec hl8
      clear hl8
      go_loopw [7, 8] (fun v k wr => ∃ (j N : Nat) (K : Int), v = .int .u64 (N : Int) ∧ k = .int .i64 K ∧ Sec (K = 7 - (j : Int)) ∧ j ≤ 8 ∧ Sec (N = 8 * m / 256 ^ j) ∧ N < 18446744073709551616 ∧ Blk wr w.heap.size 183 (pArr m j) ∧ Gr w wr)
        (fun _ k _ => (intOf k + 1).toNat)
      case atStart => exact ⟨0, m * 8, 7, by simp, rfl, sec (by omega), by omega, HN0, by omega, by rw [pArr_zero]; exact HZ.out, (Gr.refl w).alloc _⟩
      case round =>
        obtain ⟨j, N, K, rfl, rfl, HK, hj, HN, hN, hB, hg⟩ := hrel
        by_cases hlt : j < 8
        · have hK0 : 0 ≤ K := by have := HK.out; omega
          have hK8 : K < 8 := by have := HK.out; omega
          have hKt : K.toNat = 7 - j := by have := HK.out; omega
          have hc : ∃ v, wr.cell? ⟨w.heap.size, 7 - j, none⟩ = some v := ⟨_, (hB.cell _).trans (Array.getElem?_eq_getElem (by rw [pArr_size]; omega))⟩
          obtain ⟨v, hc⟩ := hc
          have hf := hB.frozen (7 - j)
          have HD : Sec (N / 256 = 8 * m / 256 ^ (j + 1)) := sec (by rw [HN.out, Nat.div_div_eq_div_mul, Nat.pow_succ])
          have HP : Sec (pByte m j = .int .u8 ((N : Int) % 256)) := sec (by unfold pByte; rw [← HN.out]; simp)
          go_wp2_with fail
          go_roundw
          case rel => exact ⟨j + 1, N / 256, K - 1, by simp, rfl, sec (by have := HK.out; omega), by omega, HD, by omega, by rw [← pArr_set m j hlt, HP.out]; exact hB.set_ _ _, hg.setCell (Nat.le_refl _) _⟩
          case measure => simp [intOf]; omega
        · obtain rfl : j = 8 := by omega
          obtain rfl : K = -1 := by have := HK.out; omega
          have hcv : (convert 140 9 (.slice (some ⟨w.heap.size, 0, none⟩) 8 8)).run Tryz.prog wr = .ok (.string (bs (be8 (8 * m)))) wr :=
            run_conv_at Tryz.underlying140 Tryz.underlying5 Tryz.underlying9 wr w.heap.size 0 8 (be8 (8 * m)) (fun j u hu => by
              rw [Nat.zero_add, hB.cell, ← pArr_full] at *
              simpa using hu)
          have hl63' : ¬ 9223372036854775807 < l.length + (be8 (8 * m)).length := by rw [be8_len]; exact hl63
          go_wp2_with fail
          go_ret
          exact ⟨by rw [HL.out]; rfl, hg⟩
end Go.Proofs.YtoamnifnfkgbiaaGreatDoor

namespace Go.Proofs.YtoamnifnfkgbiaaGreatDoor
open Go.RowKit
set_option linter.unusedVariables false
set_option maxRecDepth 100000 in
set_option maxHeartbeats 4000000 in
theorem rsum_any (b : List UInt8) (w : World) (hb : b.length ≤ 576460752303423488) :
    Calls Tryz.prog 57 #[.string (bs b)] w fun e w' => e = .returned (.string (bs (sha b))) ∧ Gr w w' := by
  have e1 : ((b.length : Int) - (b.length : Int) % 64) = ((b.length / 64 * 64 : Nat) : Int) := by omega
  obtain ⟨k, hk⟩ : ∃ k, k = b.length / 64 * 64 := ⟨_, rfl⟩
  rw [← hk] at e1
  have hk1 : k ≤ b.length := by omega
  have hk2 : (k : Int) ≤ (b.length : Int) := by omega
  have hk3 : k % 64 = 0 := by omega
  have HD : Sec (b.drop k = restOf b) := sec (by rw [hk]; rfl)
  have HT : Sec (overS startS (b.take k) = overS startS b) := sec (by rw [hk]; exact overS_take _ _ _ rfl)
  have hl : (b.take k).length = k := by rw [List.length_take]; omega
  have HL := sec hl
  have H3 := sec hk3
  have hrl : (restOf b).length < 1152921504606846976 := by rw [restOf_len]; omega
  have HRL := sec hrl
  have hbl : b.length < 1152921504606846976 := by omega
  clear hk hl hk3 hrl
  have HP : Sec ((padTo (restOf b) b.length).length % 64 = 0) := sec (padTo_mod _ _)
  have HQ : Sec ((padTo (restOf b) b.length).length < 4611686018427387904) := sec (by rw [padTo_len, restOf_len]; unfold zerosFor; omega)
  have HS : Sec (sha b = text8 (overS (overS startS b) (padTo (restOf b) b.length))) := sec rfl
  have HM : Sec (k < 4611686018427387904) := sec (by omega)
  obtain ⟨R, hR⟩ : ∃ R, R = restOf b := ⟨_, rfl⟩
  rw [← hR] at HD HRL HP HQ HS
  obtain ⟨S, hS⟩ : ∃ S, S = overS startS b := ⟨_, rfl⟩
  rw [← hS] at HT HS
  clear hR hS
  go_enter Tryz.func57, Tryz.ntmps57
  go_wp2_with fail
  go_region_held3 (fun w' => Gr w w') (first | assumption | exact (Gr.refl _).drew | exact Gr.refl _)
    (first
      | (go_at_call 100; refine (start_any _).mono ?_; rintro e w1 ⟨rfl, g1⟩; have gg1 : Gr w w1 := Gr.trans (by assumption) g1)
      | (go_at_call 101; rw [HD.out]; refine (padded_any R b.length _ HRL.out hbl).mono ?_; rintro e w3 ⟨rfl, g3⟩; have gg3 : Gr w w3 := Gr.trans (by assumption) g3)
      | (go_at_call 98; refine (rtext_any _ _).mono ?_; rintro e w5 ⟨rfl, g5⟩; have gg5 : Gr w w5 := Gr.trans (by assumption) g5)
      | (go_at_call 99; with_reducible refine Calls.mono (over_any startS (b.take k) _ (by rw [HL.out]; exact HM.out) (by rw [HL.out]; exact H3.out)) ?_; rw [HT.out]; rintro e w2 ⟨rfl, g2⟩; have gg2 : Gr w w2 := Gr.trans (by assumption) g2)
      | (go_at_call 99; refine (over_any S (padTo R b.length) _ HQ.out HP.out).mono ?_; rintro e w4 ⟨rfl, g4⟩; have gg4 : Gr w w4 := Gr.trans (by assumption) g4))
  go_wp2_with fail
  go_ret
  exact ⟨by rw [HS.out]; rfl, gg5⟩
end Go.Proofs.YtoamnifnfkgbiaaGreatDoor

namespace Go.Proofs.YtoamnifnfkgbiaaGreatDoor
set_option maxRecDepth 100000
open Go.RowKit
set_option linter.unusedVariables false
/-- a closure comes back that tells texts -/
def TellsV (w : World) (g : Nat) (G : Tl) (e : Ending) (w' : World) : Prop := ∃ caps, e = .returned (.func (.func g) #[] caps) ∧ Tells g caps G w' ∧ Gr w w'
set_option maxHeartbeats 8000000 in
theorem tells_any (L : List (List UInt8)) (A : Option Addr) (n c : Nat) (w : World) (hx : StrRow w A n L) (hn : n ≤ 1099511627776) (hs : ∀ x ∈ L, x.length ≤ 1099511627775) :
    Calls Tryz.prog 13 #[.slice A n c] w (TellsV w 58 (tlG L)) := by
  have hl := hx.len
  subst hl
  have HSZ := sec hs
  have HS : Sec (∀ s W, s.length ≤ 1099511627775 → Calls Tryz.prog 57 #[.string (bs s)] W fun e w' => e = .returned (.string (bs (sha s))) ∧ Gr W w') := sec (fun s W h => rsum_any s W (by omega))
  obtain ⟨wa, hwa⟩ : ∃ x, x = (w.alloc (.map #[] 0)).alloc (.cells #[.map (some w.heap.size)] 96) := ⟨_, rfl⟩
  have M0 : MapAt 9 9 Lit.string wa w.heap.size 0 (tlF (L.take 0)) := by rw [hwa]; exact (MapAt.made _ _ _ _).gr ((Gr.refl _).alloc _)
  have g0 : Gr w wa := by rw [hwa]; exact ((Gr.refl w).alloc _).alloc _
  have hb0 : wa.cell? ⟨w.heap.size + 1, 0, none⟩ = some (.map (some w.heap.size)) := by rw [hwa]; exact (Blk.new1 w (.map #[] 0) 96 #[.map (some w.heap.size)]).cell 0
  have H0 := sec (And.intro M0 (And.intro hb0 (And.intro g0 (hx.gr g0))))
  have hmm := @run_makeMap Tryz.prog
  clear hx hs M0 g0 hb0
  go_enter Tryz.func13, Tryz.ntmps13
  go_wp2_with fail
  rw [← hwa]
  obtain ⟨b, hb⟩ : ∃ b, b = w.heap.size := ⟨_, rfl⟩
  rw [← hb] at H0
  rw [← hb]
  have HB := sec hb
  clear hwa hb hmm
  go_loopw [4] (fun iv wr => ∃ (i cnt : Nat), iv = .int .i64 (i : Int) ∧ i ≤ L.length ∧ cnt ≤ i ∧ Sec (MapAt 9 9 Lit.string wr b cnt (tlF (L.take i)) ∧ wr.cell? ⟨b + 1, 0, none⟩ = some (.map (some b)) ∧ Gr w wr ∧ StrRow wr A L.length L)) (fun iv _ => L.length - (intOf iv).toNat)
  case atStart => exact ⟨0, 0, rfl, by omega, by omega, sec H0.out⟩
  case round =>
    clear H0
    obtain ⟨i, cnt, rfl, hi, hc, HM⟩ := hrel
    by_cases hlt : i < L.length
    · have hii : (i : Int) < (L.length : Int) := by omega
      have HTK : Sec (tlF (L.take (i + 1)) = mset (tlF (L.take i)) (sha L[i]) L[i]) := sec (tlF_take hlt)
      have HSi := sec (fun W => HS.out L[i] W (HSZ.out _ (List.getElem_mem hlt)))
      have hsl := HSZ.out _ (List.getElem_mem hlt)
      obtain ⟨q, off, rfl, e0⟩ := HM.out.2.2.2.cell hlt
      have HCL : Sec (∀ W, Gr wr W → W.cell? ⟨q, off + i, none⟩ = some (.string (bs L[i])) ∧ W.cell? ⟨b + 1, 0, none⟩ = some (.map (some b))) := sec (fun W g => ⟨by obtain ⟨q', off', e, h⟩ := (HM.out.2.2.2.gr g).cell hlt; injection e with e; injection e with e1 e2; subst e1 e2; exact h, (g.below.cell (p := ⟨b + 1, 0, none⟩) (World.block_lt_of_cell? wr _ HM.out.2.1)).trans HM.out.2.1⟩)
      obtain ⟨s, hs⟩ : ∃ s, s = L[i] := ⟨_, rfl⟩
      rw [← hs] at HTK HSi hsl e0 HCL
      have hsl2 : s.length ≤ maxLen := by unfold maxLen; omega
      have hshl : (sha s).length ≤ maxLen := by rw [sha_len]; unfold maxLen; omega
      have hcm : cnt < maxLen := by unfold maxLen; omega
      have d0 : wr.drew.cell? ⟨q, off + i, none⟩ = some (.string (bs s)) := e0
      have d1 : wr.drew.cell? ⟨b + 1, 0, none⟩ = some (.map (some b)) := HM.out.2.1
      have d2 : wr.cell? ⟨b + 1, 0, none⟩ = some (.map (some b)) := HM.out.2.1
      have HIL := sec hlt
      clear hs hlt
      go_upto_region 5 with fail
      go_region_with (go_at_call 57; (with_reducible refine Calls.mono (HSi.out _) ?_); rintro e w1 ⟨rfl, g1⟩; have G1 : Gr wr w1 := Gr.trans (Gr.refl wr).drew g1; obtain ⟨c1, c2⟩ := HCL.out w1 G1; obtain ⟨w5, hup, m5, h5⟩ := MapAt.put MT (HM.out.1.gr G1) hcm hshl hsl2)
      all_goals
        go_wp2_with fail
        go_roundw
        case rel =>
          refine ⟨i + 1, mcnt (tlF (L.take i)) (sha s) cnt, by go_num, HIL.out, by unfold mcnt; split <;> omega, sec ⟨by rw [HTK.out]; exact m5, ?_, Gr.only (HM.out.2.2.1.trans G1) h5 (by rw [HB.out]; exact Nat.le_refl _), Row.aside (HM.out.2.2.2.gr G1) (HM.out.1.gr G1) h5⟩⟩
          rw [World.cell?_of_block (a := ⟨b + 1, 0, none⟩) (h5.block (b + 1) (World.block_lt_of_cell? w1 _ c2) (by simp))]
          exact c2
        case measure => simp [intOf]; have := HIL.out; omega
    · obtain rfl : i = L.length := by omega
      clear hlt
      go_wp2_with fail
      go_ret
      refine ⟨_, rfl, fun W x hW hx => ?_, HM.out.2.2.1⟩
      have hM := HM.out.1
      rw [List.take_length] at hM
      exact tells1_any (b + 1) b cnt (tlF L) x W ((hW.below.cell (p := ⟨b + 1, 0, none⟩) (World.block_lt_of_cell? wr _ HM.out.2.1)).trans HM.out.2.1) (hM.gr hW) hx
end Go.Proofs.YtoamnifnfkgbiaaGreatDoor

namespace Go.Proofs.YtoamnifnfkgbiaaGreatDoor
set_option maxRecDepth 100000
open Go.RowKit
set_option linter.unusedVariables false
/-- whether it descends comes back -/
def DsPost (w : World) (G : Tl) (id frm : List UInt8) (e : Ending) (w' : World) : Prop := ∃ b, Ds G frm [] [id] b ∧ e = .returned (.bool b) ∧ Gr w w'
theorem Win.first {w : World} {B m cap : Nat} {A : Option Addr} {ys : List (List UInt8)} {x : List UInt8} (h : Win w B A (m + 1) cap ((x :: ys).map strV)) :
    ∃ g off, A = some ⟨g, off, none⟩ ∧ w.cell? ⟨g, off, none⟩ = some (.string (bs x)) ∧ Win w B (if cap = 1 then some ⟨g, off, none⟩ else some ⟨g, off + 1, none⟩) m (cap - 1) (ys.map strV) := by
  have hle := h.le
  have hl := h.len
  rcases h.lies with ⟨_, h0⟩ | ⟨g, off, e, _, h2, _⟩
  · omega
  · refine ⟨g, off, e, h2 0 _ rfl, ?_⟩
    subst e
    by_cases hc : cap = 1
    · subst hc
      obtain rfl : m = 0 := by omega
      rw [if_pos rfl]
      have : ys = [] := List.eq_nil_of_length_eq_zero (by simpa using hl)
      subst this
      exact Win.bare w B
    · rw [if_neg hc]
      obtain ⟨c', rfl⟩ : ∃ c', cap = c' + 1 := ⟨cap - 1, by omega⟩
      exact h.shift

theorem MapAt.len {α : Type} {t k e : TypeId} {mk : α → Lit} {vl : α → Value} {ok : α → Prop} {z : α} {w : World} {b c : Nat} {f : List UInt8 → Option α} (M : MapE t k e mk vl ok z) (h : MapAt k e mk w b c f) (ty : TypeId) : (Builtin.len_ #[t] ty #[.map (some b)]).run Tryz.prog w = .ok (.int .i64 (c : Int)) w := by
  obtain ⟨D, h1, h2, h3⟩ := h
  rw [h1.len M.under ty, h2]

set_option maxHeartbeats 16000000 in
theorem desc_any (g : Nat) (caps : Array Value) (G : Tl) (eg : ∀ args w, (callFunc g args).run Tryz.prog w = .ok (.enter g args) w) (id frm : List UInt8) (w : World) (hT : Tells g caps G w) (hG : ∀ x, (G x).1.length ≤ 1048576)
    (hid : id.length ≤ 1099511627776) :
    Calls Tryz.prog 17 #[.func (.func g) #[] caps, .string (bs id), .string (bs frm)] w (DsPost w G id frm) := by
  obtain ⟨wa, hwa⟩ : ∃ x, x = w.alloc (.map #[] 0) := ⟨_, rfl⟩
  have hmk : (Instr.makeMap 88 none).run Tryz.prog w = .ok (.map (some w.heap.size)) wa := by rw [hwa]; rfl
  have M0 : MapAt 9 4 Lit.bool wa w.heap.size 0 (seenF []) := by rw [hwa, seenF_nil]; exact MapAt.made _ _ _ _
  have g0 : Gr w wa := by rw [hwa]; exact (Gr.refl w).alloc _
  have hba : w.heap.size < wa.heap.size := by rw [hwa]; simp
  obtain ⟨b, hb⟩ : ∃ b, b = w.heap.size := ⟨_, rfl⟩
  rw [← hb] at hmk M0 hba
  have HT := sec hT
  have HGL := sec hG
  have HBA := sec hba
  have HB := sec hb
  have HI := sec hid
  clear hT hG hwa hba hb hid
  have M1 := sec (M0.gr ((Gr.refl wa).alloc (.cells #[.string (bs id)] 9)))
  have G1 := sec (And.intro (g0.alloc (.cells #[.string (bs id)] 9)) ((Gr.refl wa).alloc (.cells #[.string (bs id)] 9)).size)
  have W1 : Sec (Win (wa.alloc (.cells #[.string (bs id)] 9)) wa.heap.size (some ⟨wa.heap.size, 0, none⟩) 1 1 ([id].map strV)) := sec (Win.own (e := 9) (World.ownsRow_lit wa #[.string (bs id)] 1 (Nat.le_refl _) (by first | (unfold maxLen; omega) | simp) rfl))
  clear M0 g0
  go_enter Tryz.func17, Tryz.ntmps17
  go_wp2_with fail
  go_outline
  go_loopg [8] (1 + 65 * 400) (fun fuel wv wr => ∃ (W S : List (List UInt8)) (m : Nat) (B : Option Addr) (d : Nat), wv = .slice B m d ∧ m + 65 * (400 - S.length) ≤ fuel ∧ S.length ≤ 400 ∧ m ≤ 1 + 64 * S.length ∧
      Sec ((∀ b, Ds G frm S W b → Ds G frm [] [id] b) ∧ W.length = m ∧ (∀ x ∈ W, x.length ≤ 1099511627776)) ∧ Sec (Win wr wa.heap.size B m d (W.map strV) ∧ MapAt 9 4 Lit.bool wr b S.length (seenF S) ∧ Gr w wr ∧ wa.heap.size ≤ wr.heap.size))
  case atStart => exact ⟨[id], [], 1, _, 1, rfl, by simp, by simp, by simp, sec ⟨fun b h => h, rfl, fun x hx => by simp only [List.mem_singleton] at hx; subst hx; exact HI.out⟩, sec ⟨W1.out, M1.out, G1.out⟩⟩
  case round =>
    clear W1 M1 G1
    obtain ⟨W, S, m, B, d, rfl, hf, hS, hmn, HR, HM⟩ := hrel
    cases W with
    | nil =>
      obtain rfl : m = 0 := by have := HR.out.2.1; simpa using this.symm
      have HQ := sec (HR.out.1 false .nil)
      go_wp2_with fail
      go_ret
      exact ⟨false, HQ.out, rfl, HM.out.2.2.1⟩
    | cons x ys =>
      obtain ⟨m', rfl⟩ : ∃ m', m = m' + 1 := ⟨m - 1, by have := HR.out.2.1; simp only [List.length_cons] at this; omega⟩
      have HYL : Sec (ys.length = m') := sec (by have := HR.out.2.1; simpa using this)
      obtain ⟨q, off, rfl, e0, W0⟩ := Win.first HM.out.1
      have hmp : (0 : Int) < (m' : Int) + 1 := by omega
      have hmd : m' + 1 ≤ d := HM.out.1.le
      obtain ⟨A', hA'⟩ : ∃ A', A' = (if d = 1 then some (⟨q, off, none⟩ : Addr) else some ⟨q, off + 1, none⟩) := ⟨_, rfl⟩
      rw [← hA'] at W0
      have hA2 := hA'.symm
      have HW := sec W0
      clear W0 hA'
      have hlen := HM.out.2.1.len MB 3
      by_cases hfu : 400 ≤ S.length
      · have hlt : ¬ (S.length : Int) < 400 := by omega
        have HQ := sec (HR.out.1 false (.full hfu))
        clear hfu
        go_wp2_with fail
        go_ret
        exact ⟨false, HQ.out, rfl, HM.out.2.2.1⟩
      have hlt : (S.length : Int) < 400 := by omega
      have hS4 : S.length < 400 := by omega
      by_cases hxf : x = frm
      · have qx : (x == frm) = true := by rw [hxf, beq_self_eq_true]
        have HQ := sec (HR.out.1 true (by rw [hxf]; exact .hit hS4))
        clear hxf hfu
        go_wp2_with fail
        go_ret
        exact ⟨true, HQ.out, rfl, HM.out.2.2.1⟩
      have qx : (x == frm) = false := by rw [beq_eq_false_iff_ne]; exact hxf
      have hx40 : x.length ≤ 1099511627776 := HR.out.2.2 x (by simp)
      have hxl : x.length ≤ maxLen := by unfold maxLen; omega
      have HYS : Sec (∀ y ∈ ys, y.length ≤ 1099511627776) := sec (fun y hy => HR.out.2.2 y (List.mem_cons_of_mem _ hy))
      have HXF := sec hxf
      have HK := sec HR.out.1
      clear hxf hfu HR
      by_cases hxS : x ∈ S
      · have hlk : (seenF S x).getD false = true := by rw [seenF_get, decide_eq_true hxS]
        have HNXT : Sec (∀ b, Ds G frm S ys b → Ds G frm [] [id] b) := sec (fun b h => HK.out b (.skip hS4 HXF.out hxS h))
        clear hxS HK
        go_wp2_with (first
          | (refine wpList_look1 MB rfl (.tmp 33) (.tmp 34) rfl rfl HM.out.2.1 rfl hxl hlk ?_))
        go_roundg (gk - 1)
        case rel => exact ⟨ys, S, m', A', d - 1, rfl, by omega, hS, by omega, sec ⟨HNXT.out, HYL.out, HYS.out⟩, sec ⟨HW.out, HM.out.2⟩⟩
        case measure => omega
      have hlk : (seenF S x).getD false = false := by rw [seenF_get, decide_eq_false hxS]
      have HMO : Sec (∀ b, Ds G frm (S ++ [x]) (ys ++ nxT G x) b → Ds G frm [] [id] b) := sec (fun b h => HK.out b (.more hS4 HXF.out hxS h))
      have HNS := sec hxS
      have hSm : S.length < maxLen := by unfold maxLen; omega
      have HWp : Sec (∀ w5, wr.grownBy w5 (some b) → Win w5 wa.heap.size A' m' (d - 1) (ys.map strV)) := sec (fun w5 h5 => HW.out.apart h5 (by intro k hk; injection hk with hk; subst hk; exact HBA.out))
      have HMp : Sec (∀ w5, MapAt 9 4 Lit.bool w5 b (mcnt (seenF S) x S.length) (mset (seenF S) x true) → ∀ w6, Gr w5 w6 → MapAt 9 4 Lit.bool w6 b (S ++ [x]).length (seenF (S ++ [x]))) := sec (fun w5 h w6 g => by rw [seenF_put, seenF_cnt HNS.out] at h; exact h.gr g)
      have HSz : Sec (∀ w5, wr.grownBy w5 (some b) → wa.heap.size ≤ w5.heap.size) := sec (fun w5 h5 => Nat.le_trans HM.out.2.2.2 h5.size)
      have HTx : Sec (∀ W, Gr w W → Calls Tryz.prog g (#[.string (bs x)] ++ caps) W fun e w' => e = .returned (.tuple #[.string (bs (G x).1), .int .i64 (G x).2]) ∧ Gr W w') := sec (fun W h => HT.out W x h hx40)
      have HGx := HGL.out x
      have HNX : Sec ((nxT G x).length ≤ 4 ∧ ∀ y ∈ nxT G x, y.length ≤ 32) := sec nxT_le
      have HND : Sec (nxT G x = if (G x).2 = 0 ∧ (obD (G x).1).2 = 0 ∧ (obD (G x).1).1.kind = 3 then (obD (G x).1).1.pars else []) := sec rfl
      obtain ⟨N, hN⟩ : ∃ N, N = nxT G x := ⟨_, rfl⟩
      rw [← hN] at HNX HND HMO
      obtain ⟨⟨s, er⟩, hGx⟩ : ∃ r, r = G x := ⟨_, rfl⟩
      rw [← hGx] at HTx HGx HND
      simp only at HTx HGx HND
      clear hGx hxS HK hN
      by_cases her : er = 0
      case neg =>
        have qer : (er == 0) = false := by rw [beq_eq_false_iff_ne]; exact her
        have HNXT : Sec (∀ b, Ds G frm (S ++ [x]) ys b → Ds G frm [] [id] b) := sec (fun b h => HMO.out b (by rw [HND.out, if_neg (fun h => her h.1), List.append_nil]; exact h))
        clear her HND HMO
        go_wp2_with (first
          | (refine wpList_look1 MB rfl (.tmp 33) (.tmp 34) rfl rfl HM.out.2.1 rfl hxl hlk ?_)
          | (refine wpList_mput MB rfl (.tmp 36) (.tmp 37) (.const (.bool true)) rfl rfl HM.out.2.1 hSm rfl hxl (y := true) rfl trivial ?_; intro w5 m5 h5; have M5 := sec m5; clear m5; have G5 : Gr w w5 := Gr.only HM.out.2.2.1 h5 (by rw [HB.out]; exact Nat.le_refl _))
          | (refine Calls.mono (HTx.out w5 G5) ?_; rintro e w6 ⟨rfl, g6⟩))
        have GG : Gr w5 w6 := g6
        go_roundg (gk - 1)
        case rel => exact ⟨ys, S ++ [x], m', A', d - 1, rfl, by rw [List.length_append]; simp only [List.length_cons, List.length_nil]; omega, by rw [List.length_append]; simp only [List.length_cons, List.length_nil]; omega, by rw [List.length_append]; simp only [List.length_cons, List.length_nil]; omega, sec ⟨HNXT.out, HYL.out, HYS.out⟩, sec ⟨(HWp.out w5 h5).gr GG, HMp.out w5 M5.out _ GG, G5.trans GG, Nat.le_trans (HSz.out w5 h5) GG.size⟩⟩
        case measure => omega
      subst her
      have qer : ((0 : Int) == 0) = true := by decide
      have HD : Sec (∀ W, Calls Tryz.prog 54 #[.string (bs s)] W (DecPost W (obD s))) := sec (fun W => obDec_any s W (by omega))
      obtain ⟨⟨o, oe⟩, hO⟩ : ∃ r, r = obD s := ⟨_, rfl⟩
      rw [← hO] at HD HND
      simp only [true_and] at HND
      clear hO
      by_cases hoe : oe = 0
      case neg =>
        have qoe : (oe == 0) = false := by rw [beq_eq_false_iff_ne]; exact hoe
        have HNXT : Sec (∀ b, Ds G frm (S ++ [x]) ys b → Ds G frm [] [id] b) := sec (fun b h => HMO.out b (by rw [HND.out, if_neg (fun h => hoe h.1), List.append_nil]; exact h))
        clear hoe HND HMO
        go_wp2_with (first
          | (refine wpList_look1 MB rfl (.tmp 33) (.tmp 34) rfl rfl HM.out.2.1 rfl hxl hlk ?_)
          | (refine wpList_mput MB rfl (.tmp 36) (.tmp 37) (.const (.bool true)) rfl rfl HM.out.2.1 hSm rfl hxl (y := true) rfl trivial ?_; intro w5 m5 h5; have M5 := sec m5; clear m5; have G5 : Gr w w5 := Gr.only HM.out.2.2.1 h5 (by rw [HB.out]; exact Nat.le_refl _))
          | (go_at_call 54; (with_reducible refine Calls.mono (HD.out _) ?_); rintro e w3 ⟨A3, c3, B3, d3, rfl, r3, g3⟩)
          | (refine wpList_store_blk rfl 91 (.tmp 12) (.tmp 49) rfl (g := w3.heap.size) (cs' := obA o A3 c3 B3 d3) rfl rfl (Blk.new w3 _ _) aggOb rfl (obA_one _ _ _ _ _) ?_; intro w4 h4 hg4; have z34 : Gr w3 w4 := Gr.only ((Gr.refl w3).alloc _) hg4 (Nat.le_refl _); have g54 : Gr w5 w4 := (g6.trans g3).trans z34; have k0 : w4.cell? ⟨w3.heap.size, 0, none⟩ = some (.int .i64 o.kind) := h4.cell 0; have k4 : w4.cell? ⟨w3.heap.size, 4, none⟩ = some (.slice B3 o.pars.length d3) := h4.cell 4)
          | (refine Calls.mono (HTx.out w5 G5) ?_; rintro e w6 ⟨rfl, g6⟩))
        have GG : Gr w5 w4 := g54
        go_roundg (gk - 1)
        case rel => exact ⟨ys, S ++ [x], m', A', d - 1, rfl, by rw [List.length_append]; simp only [List.length_cons, List.length_nil]; omega, by rw [List.length_append]; simp only [List.length_cons, List.length_nil]; omega, by rw [List.length_append]; simp only [List.length_cons, List.length_nil]; omega, sec ⟨HNXT.out, HYL.out, HYS.out⟩, sec ⟨(HWp.out w5 h5).gr GG, HMp.out w5 M5.out _ GG, G5.trans GG, Nat.le_trans (HSz.out w5 h5) GG.size⟩⟩
        case measure => omega
      subst hoe
      by_cases hkd : o.kind = 3
      case neg =>
        have qk : (o.kind == 3) = false := by rw [beq_eq_false_iff_ne]; exact hkd
        have HNXT : Sec (∀ b, Ds G frm (S ++ [x]) ys b → Ds G frm [] [id] b) := sec (fun b h => HMO.out b (by rw [HND.out, if_neg (fun h => hkd h.2), List.append_nil]; exact h))
        clear hkd HND HMO
        go_wp2_with (first
          | (refine wpList_look1 MB rfl (.tmp 33) (.tmp 34) rfl rfl HM.out.2.1 rfl hxl hlk ?_)
          | (refine wpList_mput MB rfl (.tmp 36) (.tmp 37) (.const (.bool true)) rfl rfl HM.out.2.1 hSm rfl hxl (y := true) rfl trivial ?_; intro w5 m5 h5; have M5 := sec m5; clear m5; have G5 : Gr w w5 := Gr.only HM.out.2.2.1 h5 (by rw [HB.out]; exact Nat.le_refl _))
          | (go_at_call 54; (with_reducible refine Calls.mono (HD.out _) ?_); rintro e w3 ⟨A3, c3, B3, d3, rfl, r3, g3⟩)
          | (refine wpList_store_blk rfl 91 (.tmp 12) (.tmp 49) rfl (g := w3.heap.size) (cs' := obA o A3 c3 B3 d3) rfl rfl (Blk.new w3 _ _) aggOb rfl (obA_one _ _ _ _ _) ?_; intro w4 h4 hg4; have z34 : Gr w3 w4 := Gr.only ((Gr.refl w3).alloc _) hg4 (Nat.le_refl _); have g54 : Gr w5 w4 := (g6.trans g3).trans z34; have k0 : w4.cell? ⟨w3.heap.size, 0, none⟩ = some (.int .i64 o.kind) := h4.cell 0; have k4 : w4.cell? ⟨w3.heap.size, 4, none⟩ = some (.slice B3 o.pars.length d3) := h4.cell 4)
          | (refine Calls.mono (HTx.out w5 G5) ?_; rintro e w6 ⟨rfl, g6⟩))
        have GG : Gr w5 w4 := g54
        go_roundg (gk - 1)
        case rel => exact ⟨ys, S ++ [x], m', A', d - 1, rfl, by rw [List.length_append]; simp only [List.length_cons, List.length_nil]; omega, by rw [List.length_append]; simp only [List.length_cons, List.length_nil]; omega, by rw [List.length_append]; simp only [List.length_cons, List.length_nil]; omega, sec ⟨HNXT.out, HYL.out, HYS.out⟩, sec ⟨(HWp.out w5 h5).gr GG, HMp.out w5 M5.out _ GG, G5.trans GG, Nat.le_trans (HSz.out w5 h5) GG.size⟩⟩
        case measure => omega
      have qk : (o.kind == 3) = true := by rw [hkd]; rfl
      have HNp : Sec (N = o.pars) := sec (by rw [HND.out, if_pos ⟨rfl, hkd⟩])
      have hpl : o.pars.length ≤ 4 := by have := HNX.out.1; rw [HNp.out] at this; exact this
      have hb6 : (m' + o.pars.length) * 16 ≤ 140737488355328 := by omega
      have h66 : m' + o.pars.length ≤ maxLen := by unfold maxLen; omega
      clear hkd HND
      go_wp2_with (first
        | (refine wpList_look1 MB rfl (.tmp 33) (.tmp 34) rfl rfl HM.out.2.1 rfl hxl hlk ?_)
        | (refine wpList_mput MB rfl (.tmp 36) (.tmp 37) (.const (.bool true)) rfl rfl HM.out.2.1 hSm rfl hxl (y := true) rfl trivial ?_; intro w5 m5 h5; have M5 := sec m5; clear m5; have G5 : Gr w w5 := Gr.only HM.out.2.2.1 h5 (by rw [HB.out]; exact Nat.le_refl _))
        | (go_at_call 54; (with_reducible refine Calls.mono (HD.out _) ?_); rintro e w3 ⟨A3, c3, B3, d3, rfl, r3, g3⟩)
        | (refine wpList_store_blk rfl 91 (.tmp 12) (.tmp 49) rfl (g := w3.heap.size) (cs' := obA o A3 c3 B3 d3) rfl rfl (Blk.new w3 _ _) aggOb rfl (obA_one _ _ _ _ _) ?_; intro w4 h4 hg4; have z34 : Gr w3 w4 := Gr.only ((Gr.refl w3).alloc _) hg4 (Nat.le_refl _); have g54 : Gr w5 w4 := (g6.trans g3).trans z34; have k0 : w4.cell? ⟨w3.heap.size, 0, none⟩ = some (.int .i64 o.kind) := h4.cell 0; have k4 : w4.cell? ⟨w3.heap.size, 4, none⟩ = some (.slice B3 o.pars.length d3) := h4.cell 4)
        | (at_builtin; refine wpList_append_win E.str rfl (.tmp 58) (.tmp 60) rfl rfl ((HWp.out w5 h5).gr g54) rfl (r3.pars.gr z34) r3.pn (fun v hv => by obtain ⟨l, _, rfl⟩ := List.mem_map.1 hv; rfl) hb6 h66 (Nat.le_trans (HSz.out w5 h5) g54.size) ?_; intro A7 c7 w7 W7 b7)
        | (refine Calls.mono (HTx.out w5 G5) ?_; rintro e w6 ⟨rfl, g6⟩))
      go_roundg (gk - 1)
      case rel =>
        refine ⟨ys ++ o.pars, S ++ [x], m' + o.pars.length, A7, c7, rfl, ?_, ?_, ?_, sec ⟨?_, ?_, ?_⟩, sec ⟨?_, ?_, ?_, ?_⟩⟩
        · rw [List.length_append]; simp only [List.length_cons, List.length_nil]; omega
        · rw [List.length_append]; simp only [List.length_cons, List.length_nil]; omega
        · rw [List.length_append]; simp only [List.length_cons, List.length_nil]; omega
        · intro b' h'; refine HMO.out b' ?_; rw [HNp.out]; exact h'
        · rw [List.length_append, HYL.out]
        · intro y hy
          rcases List.mem_append.1 hy with hy | hy
          · exact HYS.out y hy
          · have := HNX.out.2 y (by rw [HNp.out]; exact hy); omega
        · rw [List.map_append]; exact W7
        · exact (HMp.out w5 M5.out _ g54).below b7 HBA.out
        · exact Gr.low (G5.trans g54) b7 (Nat.le_of_lt (by have := HBA.out; rw [HB.out] at this; exact this))
        · exact Nat.le_trans (Nat.le_trans (HSz.out w5 h5) g54.size) b7.size
      case measure => omega
end Go.Proofs.YtoamnifnfkgbiaaGreatDoor

namespace Go.Proofs.YtoamnifnfkgbiaaGreatDoor
set_option maxRecDepth 100000
open Go.RowKit
set_option linter.unusedVariables false
set_option maxHeartbeats 16000000 in
theorem robLinks_any (o : Ob) (A : Option Addr) (c : Nat) (B : Option Addr) (d : Nat) (w : World) (hR : ObR w o A c B d) (hz : ObSz 1099511627776 o) :
    Calls Tryz.prog 60 #[.agg (obA o A c B d)] w (LkPost w (obLk o)) := by
  have hel := hz.ents
  have hpl := hz.pars
  obtain ⟨wa, hwa⟩ : ∃ x, x = w.alloc (.cells (obA o A c B d) 91) := ⟨_, rfl⟩
  have hb : Blk wa w.heap.size 91 (obA o A c B d) := by rw [hwa]; exact Blk.new w _ _
  have hg0 : Gr w wa := by rw [hwa]; exact (Gr.refl w).alloc _
  have HEN := sec (hR.ents.gr hg0)
  have HPA := sec (hR.pars.gr hg0)
  have HPN := sec hR.pn
  obtain ⟨p, hp⟩ : ∃ p, p = w.heap.size := ⟨_, rfl⟩
  rw [← hp] at hb
  obtain ⟨V, hV⟩ : ∃ V, V = obLk o := ⟨_, rfl⟩
  have HV := sec hV
  rw [← hV]
  clear hV hz hR
  obtain ⟨kd, dt, en, tr, pa, wh, no, ti, ta⟩ := o
  simp only at HEN HPA HPN hel hpl
  unfold obA at hb hwa
  unfold obA
  simp only at hb hwa ⊢
  have HCELL : Sec (∀ w', Gr wa w' → w'.cell? ⟨p, 0, none⟩ = some (.int .i64 kd) ∧ w'.cell? ⟨p, 1, none⟩ = some (.string (bs dt)) ∧ w'.cell? ⟨p, 2, none⟩ = some (.slice A en.length c) ∧ w'.cell? ⟨p, 3, none⟩ = some (.string (bs tr)) ∧ w'.cell? ⟨p, 4, none⟩ = some (.slice B pa.length d) ∧ w'.cell? ⟨p, 5, none⟩ = some (.string (bs wh)) ∧ w'.cell? ⟨p, 6, none⟩ = some (.string (bs no)) ∧ w'.cell? ⟨p, 7, none⟩ = some (.int .i64 ti) ∧ w'.cell? ⟨p, 8, none⟩ = some (.string (bs ta))) := sec (fun w' g => ⟨(hb.gr g).cell 0, (hb.gr g).cell 1, (hb.gr g).cell 2, (hb.gr g).cell 3, (hb.gr g).cell 4, (hb.gr g).cell 5, (hb.gr g).cell 6, (hb.gr g).cell 7, (hb.gr g).cell 8⟩)
  clear hb
  have HSZ : Sec (∀ w', Gr wa w' → wa.heap.size ≤ w'.heap.size) := sec (fun w' g => g.size)
  have hb1 : (0 + 1) * 16 ≤ 140737488355328 := by omega
  have hb2 : 0 + 1 ≤ maxLen := by unfold maxLen; omega
  have hb3 : (0 + 1 + pa.length) * 16 ≤ 140737488355328 := by omega
  have hb4 : 0 + 1 + pa.length ≤ maxLen := by unfold maxLen; omega
  obtain ⟨q0, hq0⟩ : ∃ q, q = wa.heap.size := ⟨_, rfl⟩
  have HQ := sec hq0
  go_enter Tryz.func60, Tryz.ntmps60
  go_upto_region 1 with fail
  rw [← hwa, ← hp]
  clear hwa hp hq0
  obtain ⟨c0, c1, c2, c3, c4, c5, c6, c7, c8⟩ := HCELL.out wa (Gr.refl _)
  by_cases k2 : kd = 2
  · subst k2
    have HV2 : Sec (V = en.map (·.id)) := sec (by rw [HV.out]; unfold obLk; rw [if_pos rfl])
    clear HV HPA HPN hb1 hb2 hb3 hb4
    go_upto_region 3 with fail
    go_wp2_with fail
    clear c0 c1 c2 c3 c4 c5 c6 c7 c8
    go_loopg [12, 3, 5] en.length (fun fuel iv lv _ wr => ∃ (i : Nat) (A1 : Option Addr) (c1 : Nat), iv = .int .i64 (i : Int) ∧ lv = .slice A1 i c1 ∧ en.length ≤ i + fuel ∧ i ≤ en.length ∧ Sec (wr.ownsRow wa.heap.size 9 1 (.slice A1 i c1) i (((en.take i).map (·.id)).map strV)) ∧ Gr wa wr)
    case atStart => exact ⟨0, none, 0, rfl, rfl, by omega, by omega, sec (World.ownsRow_nil _ _ _ _), Gr.refl _⟩
    case round =>
      obtain ⟨i, A1, k1, rfl, rfl, hik, hi, HO, gw⟩ := hrel
      obtain ⟨c0, c1, c2, c3, c4, c5, c6, c7, c8⟩ := HCELL.out wr gw
      by_cases hlt : i < en.length
      · have hii : (i : Int) < (en.length : Int) := by omega
        obtain ⟨b, off, rfl, e0, e1, e2⟩ := (HEN.out.gr gw).cell hlt
        have HSU : Sec (((en.take (i + 1)).map (·.id)).map strV = ((en.take i).map (·.id)).map strV ++ [.string (bs en[i].id)]) := sec (by
          rw [List.take_succ_eq_append_getElem hlt, List.map_append, List.map_append]; rfl)
        obtain ⟨x, hxx⟩ : ∃ x, x = en[i] := ⟨_, rfl⟩
        rw [← hxx] at e0 e1 e2 HSU
        have HLT := sec hlt
        clear hxx hlt
        obtain ⟨nm, dr, id⟩ := x
        simp only at e0 e1 e2 HSU
        have HOx : Sec ((wr.alloc (.cells #[.string (bs nm), .bool dr, .string (bs id)] 128)).ownsRow wa.heap.size 9 1 (.slice A1 i k1) i (((en.take i).map (·.id)).map strV)) := sec (own_gr HO.out ((Gr.refl wr).alloc _))
        have gx := gw.alloc (.cells #[.string (bs nm), .bool dr, .string (bs id)] 128)
        have hbi : (i + 1) * 16 ≤ 140737488355328 := by have := HLT.out; omega
        have hbm : i + 1 ≤ maxLen := by have := HLT.out; unfold maxLen; omega
        go_wp2_with (refine wpList_append_row E.str rfl (.tmp 16) (.tmp 19) rfl rfl (own_gr HOx.out ((Gr.refl _).alloc _)) rfl (rowkK (BlkAtK (by simp)) rfl) (fun h => by cases h) (fun u hu => by simp at hu; subst hu; rfl) hbi hbm ((gx.alloc _).size) ?_; intro A2 k2 w2 o2 h2; have HO2 := sec o2; clear o2; have g2 : Gr wa w2 := Gr.grown (gx.alloc (.cells #[.string (bs id)] 9)) h2 (fun k hk => (HOx.out.lt k hk).1))
        go_roundg (gk - 1)
        case rel => exact ⟨i + 1, A2, k2, by go_num, rfl, by have := HLT.out; omega, HLT.out, sec (by rw [HSU.out]; exact HO2.out), g2⟩
        case measure => have := HLT.out; omega
      · have hE : i = en.length := by omega
        have hii : ¬ (i : Int) < (en.length : Int) := by omega
        have q : decide (i < en.length) = false := decide_eq_false hlt
        have HF : Sec (wr.ownsRow wa.heap.size 9 1 (.slice A1 i k1) i (V.map strV)) := sec (by rw [HV2.out]; have := HO.out; rwa [List.take_of_length_le (by omega)] at this)
        clear hlt hik hi hE
        go_wp2_with fail
        go_ret
        exact lk_post HF.out (hg0.trans gw)
  have z2 : (kd == 2) = false := by rw [beq_eq_false_iff_ne]; exact k2
  by_cases k3 : kd = 3
  · subst k3
    have HV2 : Sec (V = tr :: pa) := sec (by rw [HV.out]; unfold obLk; rw [if_neg (by simp only; omega), if_pos rfl])
    clear HV HEN
    go_upto_region 10 with (refine wpList_append_row E.str rfl (.tmp 25) (.tmp 28) rfl (B := wa.heap.size) rfl (World.ownsRow_nil _ _ _ _) rfl (rowkK (BlkAtK (by simp)) rfl) (fun h => by cases h) (fun u hu => by simp at hu; subst hu; rfl) hb1 hb2 (((Gr.refl wa).alloc _).size) ?_; intro b1 k1 x1 o1 h1; have HO1 := sec o1; clear o1; have G1 : Gr wa x1 := Gr.grown ((Gr.refl wa).alloc (.cells #[.string (bs tr)] 9)) h1 (by rintro k hk; cases hk); obtain ⟨m0, m1, m2, m3, m4, m5, m6, m7, m8⟩ := HCELL.out x1 G1)
    go_wp2_with (refine wpList_append_row E.str rfl (.tmp 30) (.tmp 32) rfl rfl HO1.out rfl (Row.gr HPA.out G1) HPN.out strV_oneCell hb3 hb4 (HSZ.out _ G1) ?_; intro A2 k2 x2 o2 h2; have G2 : Gr wa x2 := Gr.grown G1 h2 (fun k hk => (HO1.out.lt k hk).1); have HO2 := sec o2; clear o2; obtain ⟨n0, n1, n2, n3, n4, n5, n6, n7, n8⟩ := HCELL.out x2 G2)
    go_ret
    exact lk_post (by rw [HV2.out]; exact HO2.out) (hg0.trans G2)
  have z3 : (kd == 3) = false := by rw [beq_eq_false_iff_ne]; exact k3
  by_cases k4 : kd = 4
  · subst k4
    have HV2 : Sec (V = [ta]) := sec (by rw [HV.out]; unfold obLk; rw [if_neg (by simp only; omega), if_neg (by simp only; omega), if_pos rfl])
    clear HV HEN HPA
    go_wp2_with (refine wpList_append_row E.str rfl (.tmp 37) (.tmp 40) rfl (B := wa.heap.size) rfl (World.ownsRow_nil _ _ _ _) rfl (rowkK (BlkAtK (by simp)) rfl) (fun h => by cases h) (fun u hu => by simp at hu; subst hu; rfl) hb1 hb2 (((Gr.refl wa).alloc _).size) ?_; intro A2 k2 w2 o2 h2; have HO2 := sec o2; clear o2; have g2 : Gr wa w2 := Gr.grown ((Gr.refl wa).alloc (.cells #[.string (bs ta)] 9)) h2 (by rintro k hk; cases hk))
    go_ret
    exact lk_post (by rw [HV2.out]; exact HO2.out) (hg0.trans g2)
  have z4 : (kd == 4) = false := by rw [beq_eq_false_iff_ne]; exact k4
  have HV2 : Sec (V = []) := sec (by rw [HV.out]; unfold obLk; rw [if_neg (by simp only; omega), if_neg (by simp only; omega), if_neg (by simp only; omega)])
  clear HV HEN HPA
  go_wp2_with fail
  go_ret
  exact lk_post (B := q0) (by rw [HV2.out]; exact World.ownsRow_nil _ _ _ _) hg0

end Go.Proofs.YtoamnifnfkgbiaaGreatDoor

namespace Go.Proofs.YtoamnifnfkgbiaaGreatDoor
set_option maxRecDepth 100000
open Go.RowKit
set_option linter.unusedVariables false
set_option linter.unusedSimpArgs false
theorem Row.free {w w' : World} {size n B : Nat} {A : Option Addr} {vs : List Value} {row : Option Nat} (h : Row w size A n vs) (hg : w.grownBy w' row) (hr : ∀ k, row = some k → B ≤ k) (hA : 0 < n → ∃ b off, A = some ⟨b, off, none⟩ ∧ b < B) : Row w' size A n vs := by
  by_cases hn : 0 < n
  · obtain ⟨b, off, e, hb⟩ := hA hn
    refine h.keep fun b' o v hv he => ?_
    obtain ⟨off', he'⟩ := he
    rw [e] at he'
    injection he' with he'
    injection he' with e1 e2
    subst e1
    rw [World.cell?_of_block (a := ⟨b, o, none⟩) (hg.block b (World.block_lt_of_cell? w _ hv) (fun e3 => by have := hr b e3.symm; omega))]
    exact hv
  · obtain rfl : n = 0 := by omega
    have hl := h.len
    obtain rfl : vs = [] := List.eq_nil_of_length_eq_zero (by simpa using hl)
    exact Row.nil _ _ _

theorem Win.apart' {w w' : World} {B n cap : Nat} {A : Option Addr} {xs : List Value} {row : Option Nat} (h : Win w B A n cap xs) (k : w.grownBy w' row) (hr : ∀ b, row = some b → b < B) : Win w' B A n cap xs := h.apart k hr
theorem RanAt.below {α : Type} {k e : TypeId} {mk : α → Lit} {w w' : World} {B b r c cnt : Nat} {f : List UInt8 → Option α} {left : List UInt8 → Bool} (h : RanAt k e mk w b r c f left cnt) (g : Below B w w') (hb : b < B) (hr : r < B) : RanAt k e mk w' b r c f left cnt := by
  obtain ⟨D, lft, ⟨es, clock, since, seen, c0, e1, e2, e3, e4, e5, e6⟩, h2⟩ := h
  exact ⟨D, lft, ⟨es, clock, since, seen, c0, by rw [g.block b hb]; exact e1, e2, e3, e4, by rw [g.block r hr]; exact e5, e6⟩, h2⟩
theorem Win.clip {w : World} {B n cap k : Nat} {A : Option Addr} {xs : List Value} (h : Win w B A n cap xs) (hk : k ≤ n) : Win w B A k k (xs.take k) := by
  have hl := h.len
  have hle := h.le
  have hm := h.max
  refine ⟨by rw [List.length_take]; omega, Nat.le_refl _, by omega, ?_⟩
  rcases h.lies with ⟨h0, h1⟩ | ⟨b, off, e, h1, h2, h3⟩
  · exact .inl ⟨h0, by omega⟩
  · refine .inr ⟨b, off, e, fun hc => h1 (by omega), fun j v hv => h2 j v ?_, fun j hj => h3 j (by omega)⟩
    have hj := (List.getElem?_eq_some_iff.1 hv).1
    rw [List.length_take] at hj
    rwa [List.getElem?_take_of_lt (by omega)] at hv
theorem Win.rest {w : World} {B n cap k g off : Nat} {xs : List Value} (h : Win w B (some ⟨g, off, none⟩) n cap xs) (hk : k ≤ n) : Row w 1 (if cap = k then some ⟨g, off, none⟩ else some ⟨g, off + k, none⟩) (n - k) (xs.drop k) := by
  have hl := h.len
  have hle := h.le
  refine ⟨by rw [List.length_drop]; omega, fun hn => ?_⟩
  rw [if_neg (by omega)]
  rcases h.lies with ⟨h0, _⟩ | ⟨b, o, e, h1, h2, h3⟩
  · cases h0
  · injection e with e
    injection e with e1 e2
    subst e1 e2
    refine ⟨g, off + k, rfl, fun j v hv => ?_⟩
    rw [List.getElem?_drop] at hv
    rw [Nat.add_assoc]
    exact h2 _ _ hv
theorem Win.cellAt {w : World} {B n cap i : Nat} {A : Option Addr} {L : List (List UInt8)} (h : Win w B A n cap (L.map strV)) (hi : i < L.length) : ∃ g off, A = some ⟨g, off, none⟩ ∧ w.cell? ⟨g, off + i, none⟩ = some (.string (bs L[i])) := by
  rcases h.lies with ⟨_, h0⟩ | ⟨g, off, e, _, h2, _⟩
  · have h1 := h.len; have h2 := h.le; rw [List.length_map] at h1; omega
  · exact ⟨g, off, e, h2 i _ (by rw [List.getElem?_map, List.getElem?_eq_getElem hi]; rfl)⟩

theorem step_append_win {ops : Array Oper} {o : Oper} {a : Act} {K : Act → World → Prop} {Q : Exit → Act → World → Prop} {X : Prop} {t e : TypeId} {z : Value} {bytes : Nat} (E : ElemOk t e z 1 bytes) (hgd : o.guard = none) (s x : Operand)
    (ho : o.op = .call { callee := .builtin .append, args := #[s, x], argTypes := #[t, t] }) {B : Nat} {w : World}
    {A : Option Addr} {n cap : Nat} {xs : List Value} (hs : a.eval s = .slice A n cap) (h : Win w B A n cap xs)
    {A' : Option Addr} {m c : Nat} {vs : List Value} (hx : a.eval x = .slice A' m c) (hrow : Row w 1 A' m vs) (hA' : A' = none → m = 0 ∧ c = 0) (h1 : ∀ u ∈ vs, u.oneCell' = true)
    (hbytes : (n + m) * bytes ≤ 140737488355328) (h63 : n + m ≤ maxLen) (hB : B ≤ w.heap.size)
    (hK : ∀ A2 cap2 w', Win w' B A2 (n + m) cap2 (xs ++ vs) → Below B w w' → K (a.put o.dst (.slice A2 (n + m) cap2)) w') :
    if Region.wanted o (yielded ops a.tmps) = true then Oper.wp Tryz.prog o a w K Q else X := by
  have hw : Region.wanted o (yielded ops a.tmps) = true := by simp [Region.wanted, hgd]
  rw [if_pos hw]
  obtain ⟨A2, cap2, w', hr, h2, h3⟩ := win_append (ty := o.type) E h hrow hA' h1 hbytes h63 hB
  unfold Oper.wp execOp
  simp only [ho, resolve, invoke, builtin, Sem.run_bind, Sem.run_pure, Result.andThen_ok, List.map_toArray, List.map_cons, List.map_nil, hs, hx, hr]
  exact hK A2 cap2 w' h2 h3

set_option maxHeartbeats 16000000 in
theorem rclosed_any (g : Nat) (caps : Array Value) (G : Tl) (eg : ∀ args w, (callFunc g args).run Tryz.prog w = .ok (.enter g args) w) (ids : List (List UInt8)) (A : Option Addr) (n c : Nat) (w : World) (hT : Tells g caps G w) (hG : ∀ x, (G x).1.length ≤ 1048576)
    (hx : StrRow w A n ids) (hn : n ≤ 1048576) (hs : ∀ x ∈ ids, x.length ≤ 1099511627776) :
    Calls Tryz.prog 15 #[.func (.func g) #[] caps, .slice A n c] w fun e w' => ∃ L A n c er, RcSpec G ids (L, er) ∧ e = .returned (.tuple #[.slice A n c, .int .i64 er]) ∧ StrRow w' A n L ∧ L.length ≤ 400 ∧ Gr w w' := by
  have hln := hx.len
  obtain ⟨wa, hwa⟩ : ∃ x, x = w.alloc (.map #[] 0) := ⟨_, rfl⟩
  have hmk : (Instr.makeMap 88 none).run Tryz.prog w = .ok (.map (some w.heap.size)) wa := by rw [hwa]; rfl
  have M0 : MapAt 9 4 Lit.bool wa w.heap.size 0 (seenF []) := by rw [hwa, seenF_nil]; exact MapAt.made _ _ _ _
  have g0 : Gr w wa := by rw [hwa]; exact (Gr.refl w).alloc _
  have hba : w.heap.size < wa.heap.size := by rw [hwa]; simp
  obtain ⟨b, hb⟩ : ∃ b, b = w.heap.size := ⟨_, rfl⟩
  rw [← hb] at hmk M0 hba
  have HX := sec (hx.gr g0)
  have HT := sec hT
  have HSZ := sec hs
  have HGL := sec hG
  have HBA := sec hba
  have HB := sec hb
  have M1 := sec M0
  have G1 := sec g0
  clear hx hT hs hG hwa hba hb M0 g0
  go_enter Tryz.func15, Tryz.ntmps15
  go_wp2_with fail
  go_loopg [7, 8, 9, 10] 404 (fun fuel lv gv mv nv wr => ∃ (L S : List (List UInt8)) (m : Nat) (B : Option Addr) (d : Nat) (lk wg mn : Bool), lv = .bool lk ∧ gv = .bool wg ∧ mv = .bool mn ∧ nv = .slice B m d ∧ (m = 0 ∨ mn = true ∨ 402 - S.length + 1 ≤ fuel) ∧ 1 ≤ fuel ∧ (mn = true → 400 < S.length) ∧ (mn = false → S.length ≤ 400 ∧ m ≤ 1048576) ∧
      Sec (Rc G ids S L lk wg ∧ L.length = m ∧ (∀ x ∈ L, x.length ≤ 1099511627776) ∧ (∀ x ∈ S, x.length ≤ 1099511627776)) ∧ Sec (StrRow wr B m L ∧ MapAt 9 4 Lit.bool wr b S.length (seenF S) ∧ Gr w wr ∧ wa.heap.size ≤ wr.heap.size))
  case atStart => exact ⟨ids, [], n, A, c, false, false, false, rfl, rfl, rfl, rfl, by simp, by omega, by simp, fun _ => ⟨by simp, hn⟩, sec ⟨Rc.start G ids, hln, HSZ.out, by simp⟩, sec ⟨HX.out, M1.out, G1.out, Nat.le_refl _⟩⟩
  case round =>
    clear M1 G1 HX
    obtain ⟨L, S, m, B, d, lk, wg, mn, rfl, rfl, rfl, rfl, hf, hf1, hmt, hmf, HR, HM⟩ := hrel
    by_cases hgo : 0 < m ∧ mn = false
    · obtain ⟨hm0, rfl⟩ := hgo
      have hmp : (0 : Int) < (m : Int) := by omega
      obtain ⟨hS4, hm20⟩ := hmf rfl
      have hf2 : 402 - S.length + 1 ≤ gk := by rcases hf with h | h | h; omega; cases h; exact h
      clear hf hmt hmf
      obtain ⟨gO, hgO⟩ : ∃ x, x = gk := ⟨_, rfl⟩
      rw [← hgO] at hf2 hf1
      obtain ⟨wl, hwl⟩ : ∃ x, x = wr := ⟨_, rfl⟩
      rw [← hwl] at HM
      have HWL : Sec (wa.heap.size ≤ wl.heap.size) := sec HM.out.2.2.2
      have HBL : Sec (0 < m → ∃ q off, B = some ⟨q, off, none⟩ ∧ q < wl.heap.size) := sec (fun h => HM.out.1.lt h (by omega))
      have HLm : Sec (L.length = m ∧ (∀ x ∈ L, x.length ≤ 1099511627776)) := sec ⟨HR.out.2.1, HR.out.2.2.1⟩
      have HR0 := sec (And.intro HR.out.1 HR.out.2.2.2)
      have HM0 := HM
      clear HR HM
      subst hgO
      subst hwl
      go_wp2_with fail
      go_loopg [7, 8, 11, 31] (m + 1) (fun fuel lv gv mv iv wx => ∃ (i : Nat) (S' Mr : List (List UInt8)) (mr : Nat) (C : Option Addr) (dc : Nat) (lk' wg' : Bool), lv = .bool lk' ∧ gv = .bool wg' ∧ mv = .slice C mr dc ∧ iv = .int .i64 (i : Int) ∧ i ≤ m ∧ m + 1 ≤ i + fuel ∧ S.length ≤ S'.length ∧ S'.length ≤ S.length + i ∧ mr + 64 * S.length ≤ 64 * S'.length ∧
          Sec (Rc G ids S' (L.drop i ++ Mr) lk' wg' ∧ Mr.length = mr ∧ (∀ x ∈ Mr, x.length ≤ 1099511627776) ∧ (∀ x ∈ S', x.length ≤ 1099511627776)) ∧
          Sec (StrRow wx B m L ∧ MapAt 9 4 Lit.bool wx b S'.length (seenF S') ∧ wx.ownsRow wl.heap.size 9 1 (.slice C mr dc) mr (Mr.map strV) ∧ Gr w wx ∧ wl.heap.size ≤ wx.heap.size))
      case atStart => exact ⟨0, S, [], 0, none, 0, lk, wg, rfl, rfl, rfl, rfl, by omega, by omega, by omega, by omega, by omega, sec ⟨by rw [List.drop_zero, List.append_nil]; exact HR0.out.1, rfl, by simp, HR0.out.2⟩, sec ⟨HM0.out.1, HM0.out.2.1, World.ownsRow_nil _ _ _ _, HM0.out.2.2.1, Nat.le_refl _⟩⟩
      case round =>
        clear HR0 HM0
        obtain ⟨i, S', Mr, mr, C, dc, lk', wg', rfl, rfl, rfl, rfl, him, hik, hSS, hSi, hmr, HR, HM⟩ := hrel
        by_cases hlt : i < m
        · have hii : (i : Int) < (m : Int) := by omega
          have hlL : i < L.length := by rw [HLm.out.1]; exact hlt
          obtain ⟨q, off, rfl, e0⟩ := HM.out.1.cell hlL
          have HRC : Sec (Rc G ids S' (L[i] :: (L.drop (i + 1) ++ Mr)) lk' wg') := sec (by have := HR.out.1; rwa [List.drop_eq_getElem_cons hlL, List.cons_append] at this)
          have hx40 := HLm.out.2 _ (List.getElem_mem hlL)
          obtain ⟨x, hxx⟩ : ∃ x, x = L[i] := ⟨_, rfl⟩
          rw [← hxx] at e0 HRC hx40
          have hxl : x.length ≤ maxLen := by unfold maxLen; omega
          have HRB := sec HR.out.2
          clear hxx HR hlL
          by_cases hxS : x ∈ S'
          · have hlk : (seenF S' x).getD false = true := by rw [seenF_get, decide_eq_true hxS]
            have HV : Sec (Vis G S' lk' wg' x) := sec (.inl hxS)
            clear hxS
            go_wp2_with (first
            | (refine wpList_look1 MB rfl (.tmp 35) (.tmp 36) rfl rfl HM.out.2.1 rfl hxl hlk ?_))
            go_roundg (gk - 1)
            case rel => exact ⟨i + 1, S', Mr, mr, C, dc, lk', wg', rfl, rfl, rfl, by go_num, by omega, by omega, hSS, by omega, hmr, sec ⟨HRC.out.pop HV.out, HRB.out⟩, sec HM.out⟩
            case measure => omega
          have hlk : (seenF S' x).getD false = false := by rw [seenF_get, decide_eq_false hxS]
          have HNS := sec hxS
          have HTx : Sec (∀ W, Gr w W → Calls Tryz.prog g (#[.string (bs x)] ++ caps) W fun e w' => e = .returned (.tuple #[.string (bs (G x).1), .int .i64 (G x).2]) ∧ Gr W w') := sec (fun W h => HT.out W x h hx40)
          have HGx := HGL.out x
          obtain ⟨⟨s, er⟩, hGx⟩ : ∃ r, r = G x := ⟨_, rfl⟩
          rw [← hGx] at HTx HGx
          simp only at HTx HGx
          have HE : Sec (G x = (s, er)) := sec hGx.symm
          clear hGx hxS
          by_cases her : er = 0
          case neg =>
            have qer : (er != 0) = true := by rw [bne_iff_ne]; exact her
            have HL : Sec ((G x).2 ≠ 0) := sec (by rw [HE.out]; exact her)
            clear her
            go_wp2_with (first
            | (refine wpList_look1 MB rfl (.tmp 35) (.tmp 36) rfl rfl HM.out.2.1 rfl hxl hlk ?_)
            | (refine Calls.mono (HTx.out wr HM.out.2.2.2.1) ?_; rintro e w2 ⟨rfl, g2⟩))
            have GG : Gr wr w2 := g2
            go_roundg (gk - 1)
            case rel => exact ⟨i + 1, S', Mr, mr, C, dc, true, wg', rfl, rfl, rfl, by go_num, by omega, by omega, hSS, by omega, hmr, sec ⟨HRC.out.lack HL.out, HRB.out⟩, sec ⟨HM.out.1.gr GG, HM.out.2.1.gr GG, own_gr HM.out.2.2.1 GG, HM.out.2.2.2.1.trans GG, Nat.le_trans HM.out.2.2.2.2 GG.size⟩⟩
            case measure => omega
          subst her
          have qer : ((0 : Int) != 0) = false := by decide
          have HD : Sec (∀ W, Calls Tryz.prog 59 #[.string (bs s)] W (DecPost W (obD s))) := sec (fun W => robDec_any s W (by omega))
          have HZ : Sec (ObSz 1099511627776 (obD s).1) := sec (obD_sz s (by omega)).1
          have HE2 : Sec ((G x).2 = 0 ∧ (obD (G x).1) = obD s) := sec (by rw [HE.out]; exact ⟨rfl, rfl⟩)
          have HLK : Sec ((obD s).2 = 0 → lkT G x = obLk (obD s).1 ∧ (obLk (obD s).1).length ≤ 64 ∧ ∀ y ∈ obLk (obD s).1, y.length ≤ 32) := sec (fun h => by
            have h1 := lkT_le (G := G) (x := x) ⟨HE2.out.1, by rw [HE2.out.2]; exact h⟩
            unfold lkT at h1 ⊢
            rw [HE2.out.2] at h1 ⊢
            exact ⟨rfl, h1⟩)
          obtain ⟨⟨o, oe⟩, hO⟩ : ∃ r, r = obD s := ⟨_, rfl⟩
          rw [← hO] at HD HZ HE2 HLK
          simp only at HZ HLK
          clear hO HE
          by_cases hoe : oe = 0
          case neg =>
            have qoe : (oe != 0) = true := by rw [bne_iff_ne]; exact hoe
            have HW2 : Sec ((obD (G x).1).2 ≠ 0) := sec (by rw [HE2.out.2]; exact hoe)
            clear hoe HLK
            go_wp2_with (first
            | (refine wpList_look1 MB rfl (.tmp 35) (.tmp 36) rfl rfl HM.out.2.1 rfl hxl hlk ?_)
            | (go_at_call 59; (with_reducible refine Calls.mono (HD.out _) ?_); rintro e w3 ⟨A3, c3, B3, d3, rfl, r3, g3⟩)
            | (refine wpList_store_blk rfl 91 (.tmp 16) (.tmp 49) rfl (g := w3.heap.size) (cs' := obA o A3 c3 B3 d3) rfl rfl (Blk.new w3 _ _) aggOb rfl (obA_one _ _ _ _ _) ?_; intro w4 h4 hg4; have z34 : Gr w3 w4 := Gr.only ((Gr.refl w3).alloc _) hg4 (Nat.le_refl _); have g4 : Gr wr w4 := (g2.trans g3).trans z34; have M4 := sec (HM.out.2.1.gr g4))
            | (refine Calls.mono (HTx.out wr HM.out.2.2.2.1) ?_; rintro e w2 ⟨rfl, g2⟩))
            have GG : Gr wr w4 := g4
            go_roundg (gk - 1)
            case rel => exact ⟨i + 1, S', Mr, mr, C, dc, lk', true, rfl, rfl, rfl, by go_num, by omega, by omega, hSS, by omega, hmr, sec ⟨HRC.out.wrongd HE2.out.1 HW2.out, HRB.out⟩, sec ⟨HM.out.1.gr GG, HM.out.2.1.gr GG, own_gr HM.out.2.2.1 GG, HM.out.2.2.2.1.trans GG, Nat.le_trans HM.out.2.2.2.2 GG.size⟩⟩
            case measure => omega
          subst hoe
          have HOK : Sec (okT G x) := sec ⟨HE2.out.1, by rw [HE2.out.2]⟩
          obtain ⟨hL1, hL2, hL3⟩ := HLK.out rfl
          have HL1 := sec hL1
          have HL3 := sec hL3
          have hSm : S'.length < maxLen := by unfold maxLen; omega
          obtain ⟨Lk, hLk⟩ : ∃ L, L = obLk o := ⟨_, rfl⟩
          have HLi : Sec (∀ A c B d W, ObR W o A c B d → Calls Tryz.prog 60 #[.agg (obA o A c B d)] W (LkPost W Lk)) := sec (fun A c B d W h => by rw [hLk]; exact robLinks_any o A c B d W h HZ.out)
          rw [← hLk] at hL2 HL1 HL3
          clear hL1 hL3 hLk HLK
          go_wp2_with (first
            | (refine wpList_look1 MB rfl (.tmp 35) (.tmp 36) rfl rfl HM.out.2.1 rfl hxl hlk ?_)
            | (go_at_call 59; (with_reducible refine Calls.mono (HD.out _) ?_); rintro e w3 ⟨A3, c3, B3, d3, rfl, r3, g3⟩)
            | (refine wpList_store_blk rfl 91 (.tmp 16) (.tmp 49) rfl (g := w3.heap.size) (cs' := obA o A3 c3 B3 d3) rfl rfl (Blk.new w3 _ _) aggOb rfl (obA_one _ _ _ _ _) ?_; intro w4 h4 hg4; have z34 : Gr w3 w4 := Gr.only ((Gr.refl w3).alloc _) hg4 (Nat.le_refl _); have g4 : Gr wr w4 := (g2.trans g3).trans z34; have M4 := sec (HM.out.2.1.gr g4))
            | (refine wpList_mput MB rfl (.tmp 53) (.tmp 54) (.const (.bool true)) rfl rfl M4.out hSm rfl hxl (y := true) rfl trivial ?_; intro w5 m5 h5; have M5 := sec m5; clear m5; have H4 := sec (And.intro h4 (r3.gr z34)); have hne5 : w3.heap.size ≠ b := (by have := HM.out.2.1.lt; have := (g2.trans g3).size; omega))
            | (refine wpList_load_blk rfl 91 (.tmp 16) rfl (g := w3.heap.size) rfl (cs := obA o A3 c3 B3 d3) (H4.out.1.only h5 hne5) aggOb ?_)
            | (go_at_call 60; (with_reducible refine Calls.mono (HLi.out A3 c3 B3 d3 _ (H4.out.2.aside M4.out h5)) ?_); rintro e w6 ⟨A6, c6, n6, rfl, rfl, r6, hA6, hc6, g6⟩; have hbne : (Value.slice C mr dc).ownBlock = none ∨ (Value.slice C mr dc).ownBlock ≠ some b := .inr (fun e => row_ne_low HM.out.2.2.1 (Nat.lt_of_lt_of_le HBA.out HWL.out) e.symm); have O6 := own_gr ((own_gr HM.out.2.2.1 g4).kept h5 hbne) g6; have S6 : wl.heap.size ≤ w6.heap.size := Nat.le_trans HM.out.2.2.2.2 (Nat.le_trans g4.size (Nat.le_trans h5.size g6.size)); have hb6 : (mr + Lk.length) * 16 ≤ 140737488355328 := (by omega); have h66 : mr + Lk.length ≤ maxLen := (by unfold maxLen; omega))
            | (at_builtin; refine wpList_append_row E.str rfl (.tmp 55) (.tmp 57) rfl (B := wl.heap.size) (A0 := C) (n0 := mr) (cap0 := dc) (xs := Mr.map strV) rfl O6 rfl r6 hA6 (fun v hv => by obtain ⟨l, _, rfl⟩ := List.mem_map.1 hv; rfl) hb6 h66 S6 ?_; intro A7 c7 w7 O7 k7)
            | (refine Calls.mono (HTx.out wr HM.out.2.2.2.1) ?_; rintro e w2 ⟨rfl, g2⟩))
          go_roundg (gk - 1)
          case rel =>
            refine ⟨i + 1, S' ++ [x], Mr ++ Lk, mr + Lk.length, A7, c7, lk', wg', rfl, rfl, rfl, by go_num, by omega, by omega, ?_, ?_, ?_, sec ⟨?_, ?_, ?_, ?_⟩, sec ⟨?_, ?_, ?_, ?_, ?_⟩⟩
            · rw [List.length_append]; simp only [List.length_cons, List.length_nil]; omega
            · rw [List.length_append]; simp only [List.length_cons, List.length_nil]; omega
            · rw [List.length_append]; simp only [List.length_cons, List.length_nil]; omega
            · have h1 := HRC.out.seen HNS.out HOK.out
              rw [HL1.out, List.append_assoc] at h1
              exact h1
            · rw [List.length_append, HRB.out.1]
            · intro y hy
              rcases List.mem_append.1 hy with hy | hy
              · exact HRB.out.2.1 y hy
              · have := HL3.out y hy; omega
            · intro y hy
              rcases List.mem_append.1 hy with hy | hy
              · exact HRB.out.2.2 y hy
              · simp only [List.mem_singleton] at hy; subst hy; exact hx40
            · refine Row.free ((Row.aside (HM.out.1.gr g4) M4.out h5).gr g6) k7 (B := wl.heap.size) (fun k hk => (O6.lt k hk).1) (fun h0 => ?_)
              exact HBL.out h0
            · have h1 := (M5.out.gr g6).kept k7 (row_ne_low O6 (Nat.lt_of_lt_of_le HBA.out HWL.out))
              rw [seenF_put, seenF_cnt HNS.out] at h1
              exact h1
            · rw [List.map_append]; exact O7
            · exact (Gr.trans (Gr.only (HM.out.2.2.2.1.trans g4) h5 (by rw [HB.out]; exact Nat.le_refl _)) g6).grown k7 (fun k hk => Nat.le_trans (Nat.le_of_lt (by have := HBA.out; rw [HB.out] at this; exact this)) (Nat.le_trans HWL.out (O6.lt k hk).1))
            · exact Nat.le_trans S6 k7.size
          case measure => omega
        · obtain rfl : i = m := by omega
          have HRM : Sec (Rc G ids S' Mr lk' wg') := sec (by have := HR.out.1; rwa [List.drop_of_length_le (by rw [HLm.out.1]; exact Nat.le_refl _), List.nil_append] at this)
          have HRB := sec HR.out.2
          clear HR
          by_cases hmany : 400 < S'.length
          · have qm : (400 : Int) < (S'.length : Int) := by omega
            go_wp2_with (refine wpList_mlen MB rfl (.tmp 60) rfl rfl HM.out.2.1 ?_)
            go_roundg (gO - 1)
            case rel => exact ⟨Mr, S', mr, C, dc, lk', wg', true, rfl, rfl, rfl, rfl, .inr (.inl rfl), by omega, fun _ => hmany, (fun h => by cases h), sec ⟨HRM.out, HRB.out⟩, sec ⟨Row.own HM.out.2.2.1, HM.out.2.1, HM.out.2.2.2.1, Nat.le_trans HWL.out HM.out.2.2.2.2⟩⟩
            case measure => omega
          · have qm : ¬ (400 : Int) < (S'.length : Int) := by omega
            go_wp2_with (refine wpList_mlen MB rfl (.tmp 60) rfl rfl HM.out.2.1 ?_)
            go_roundg (gO - 1)
            case rel => exact ⟨Mr, S', mr, C, dc, lk', wg', false, rfl, rfl, rfl, rfl, by omega, by omega, (fun h => by cases h), fun _ => ⟨by omega, by omega⟩, sec ⟨HRM.out, HRB.out⟩, sec ⟨Row.own HM.out.2.2.1, HM.out.2.1, HM.out.2.2.2.1, Nat.le_trans HWL.out HM.out.2.2.2.2⟩⟩
            case measure => omega
    · have HBIG : Sec (mn = true → RcSpec G ids ([], 6)) := sec (fun h => .inl ⟨HR.out.1.big (hmt h), rfl⟩)
      cases mn with
      | true =>
        have HQ := sec (HBIG.out rfl)
        clear HBIG hmt hmf hgo
        by_cases hm0 : 0 < m
        · have hmp : (0 : Int) < (m : Int) := by omega
          go_wp2_with fail
          go_ret2
          exact ⟨[], none, 0, 0, 6, HQ.out, rfl, Row.nil _ _ _, by simp, HM.out.2.2.1⟩
        · obtain rfl : m = 0 := by omega
          go_wp2_with fail
          go_ret2
          exact ⟨[], none, 0, 0, 6, HQ.out, rfl, Row.nil _ _ _, by simp, HM.out.2.2.1⟩
      | false =>
        obtain rfl : m = 0 := by
          by_cases h0 : 0 < m
          · exact absurd ⟨h0, rfl⟩ hgo
          · omega
        obtain rfl : L = [] := List.eq_nil_of_length_eq_zero HR.out.2.1
        have hS4 := (hmf rfl).1
        have HSP : Sec (RcSpec G ids (if lk = true then ([], 7) else if wg = true then ([], 2) else (S.mergeSort fun x y => decide (x ≤ y), 0))) := sec (by
          have h1 := rising_sort HR.out.1.nd
          exact HR.out.1.spec hS4 h1.1 h1.2.1)
        have HSS : Sec (∀ y ∈ S, y.length ≤ maxLen) := sec (fun y hy => by have := HR.out.2.2.2 y hy; unfold maxLen; omega)
        have HSN := sec HR.out.1.nd
        clear HR HBIG hmt hmf hgo hf
        cases lk with
        | true =>
          have HQ : Sec (RcSpec G ids ([], 7)) := sec (by have := HSP.out; rwa [if_pos rfl] at this)
          go_wp2_with fail
          go_ret2
          exact ⟨[], none, 0, 0, 7, HQ.out, rfl, Row.nil _ _ _, by simp, HM.out.2.2.1⟩
        | false =>
          cases wg with
          | true =>
            have HQ : Sec (RcSpec G ids ([], 2)) := sec (by have := HSP.out; rwa [if_neg (by decide), if_pos rfl] at this)
            go_wp2_with fail
            go_ret2
            exact ⟨[], none, 0, 0, 2, HQ.out, rfl, Row.nil _ _ _, by simp, HM.out.2.2.1⟩
          | false =>
            have HSP2 : Sec (∀ L : List (List UInt8), Rising L → (∀ y, y ∈ L ↔ y ∈ S) → RcSpec G ids (L, 0) ∧ L.length = S.length) := sec (fun L hn hm => by
              have h2 := rising_sort HSN.out
              have h3 := HSP.out
              rw [if_neg (by decide), if_neg (by decide)] at h3
              rw [← rising_ext _ _ hn h2.1 (fun y => by rw [h2.2.1]; exact hm y)] at h3
              exact ⟨h3, Nat.le_antisymm (nodup_sub L S hn.nodup (fun y hy => (hm y).1 hy)) (nodup_sub S L HSN.out (fun y hy => (hm y).2 hy))⟩)
            clear HSP HSN
            have HMM := sec HM.out.2.1
            have HGG := sec HM.out.2.2.1
            clear HM
            go_wp2_with (refine wpList_mrange MB rfl (.tmp 67) rfl rfl HMM.out ?_; intro w2 m2 g2 z2)
            go_frame
            have HR2 := sec m2
            have G2 := sec (HGG.out.trans g2)
            obtain ⟨r, hr⟩ : ∃ r, r = wr.heap.size := ⟨_, rfl⟩
            rw [← hr] at HR2
            rw [← hr]
            have hbr : b < w2.heap.size := by have := HMM.out.lt; omega
            have hrr : r < w2.heap.size := by omega
            have hwr : w.heap.size ≤ r := by rw [hr]; exact HGG.out.size
            clear hr z2 m2 g2 HMM HGG
            obtain ⟨B2, hB2⟩ : ∃ x, x = w2.heap.size := ⟨_, rfl⟩
            rw [← hB2] at hbr hrr
            have HBN := sec (show B2 ≤ w2.heap.size by omega)
            clear hB2
            go_loopg [17] (S.length + 1) (fun fuel lv wx => ∃ (L : List (List UInt8)) (m : Nat) (C : Option Addr) (d2 : Nat) (left : List UInt8 → Bool) (cnt : Nat), lv = .slice C m d2 ∧ cnt + 1 ≤ fuel ∧ m ≤ 400 ∧ Sec (Rising L ∧ Outs S L left ∧ m = L.length) ∧
                Sec (RanAt 9 4 Lit.bool wx b r S.length (seenF S) left cnt ∧ Win wx B2 C m d2 (L.map strV) ∧ Gr w wx ∧ B2 ≤ wx.heap.size))
            case atStart => exact ⟨[], 0, none, 0, _, _, rfl, Nat.le_refl _, by omega, sec ⟨.nil, Outs.start HSS.out, rfl⟩, sec ⟨HR2.out, Win.nil _ _, G2.out, HBN.out⟩⟩
            case round =>
              clear HR2 G2 HBN
              obtain ⟨L, m, C, d2, left, cnt, rfl, hf, hm4, HO, HM⟩ := hrel
              have HRan := sec HM.out.1
              go_wp2_with (refine wpList_mnext MB rfl (.tmp 68) rfl rfl HRan.out ?_ ?_)
              · intro hl0
                have hLS := HO.out.2.1.done hl0
                have HEND := sec (HSP2.out L HO.out.1 hLS)
                clear hl0 hLS HSP2
                go_wp2_with fail
                go_ret2
                exact ⟨L, C, m, d2, 0, HEND.out.1, rfl, HM.out.2.1.row, by have := HO.out.2.2; omega, HM.out.2.2.1⟩
              · intro x
                refine And.intro (fun w3 cnt' _ _ hfl => ?_) ?_
                · unfold seenF at hfl
                  split at hfl
                  · injection hfl with hfl; cases hfl
                  · cases hfl
                intro w3 cnt' hll hleft hfl hran hlt hgr hsz hen
                have HR3 := sec hran
                have W3 := sec (HM.out.2.1.apart' hgr (fun k hk => by injection hk with hk; omega))
                have S3 : B2 ≤ w3.heap.size := by rw [hsz]; exact HM.out.2.2.2
                have G3 := sec (HM.out.2.2.1.grown hgr (fun k hk => by injection hk with hk; omega))
                have HIN := sec (And.intro hll (And.intro hleft hfl))
                have HCN := sec (show cnt' + 1 ≤ gk - 1 ∧ 0 < gk by omega)
                have HLm : Sec (L.length = m) := sec HO.out.2.2.symm
                obtain ⟨gO, hgO⟩ : ∃ x, x = gk := ⟨_, rfl⟩
                rw [← hgO] at HCN
                clear hran hgr hsz hll hleft hfl hf hlt HM HRan
                subst hgO
                go_upto_region 32 with fail
                go_loopw [19] (fun kv wx => ∃ k : Nat, kv = .int .i64 (k : Int) ∧ k ≤ m ∧ Sec (∀ j (hj : j < L.length), j < k → ltB L[j] x = true) ∧ wx = w3) (fun kv _ => m - (intOf kv).toNat)
                case atStart => exact ⟨0, rfl, by omega, sec (fun j hj h => by omega), rfl⟩
                case round =>
                  obtain ⟨k, rfl, hk, HLo, rfl⟩ := hrel
                  by_cases hcon : ∃ h : k < L.length, ltB L[k] x = true
                  · obtain ⟨hkl, hlb⟩ := hcon
                    have hkm : (k : Int) < (m : Int) := by have := HLm.out; omega
                    obtain ⟨q, off, rfl, e0⟩ := W3.out.cellAt hkl
                    have HLo2 : Sec (∀ j (hj : j < L.length), j < k + 1 → ltB L[j] x = true) := sec (fun j hj h => by
                      by_cases e : j = k
                      · subst e; exact hlb
                      · exact HLo.out j hj (by omega))
                    have hkm2 : k < m := by omega
                    obtain ⟨y, hy⟩ : ∃ y, y = L[k] := ⟨_, rfl⟩
                    rw [← hy] at e0 hlb
                    have q1 : Op.bytesLess y x = true := hlb
                    clear hy hlb hkl HLo
                    go_wp2_with fail
                    go_roundw
                    case rel => exact ⟨k + 1, by go_num, by omega, HLo2, by trivial⟩
                    case measure => simp [intOf]; omega
                  · have HUp : Sec (∀ h : k < L.length, ltB L[k] x = false) := sec (fun h => by
                      cases hb : ltB L[k] x with
                      | false => rfl
                      | true => exact absurd ⟨h, hb⟩ hcon)
                    have HINS := sec (rising_ins HO.out.1 (x := x) (k := k) (by rw [HLm.out]; exact hk) HLo.out HUp.out (HO.out.2.1.fresh HIN.out.2.1))
                    have HRel : Sec (∀ w7 A7 c7 N, N = m + 1 → Win w7 B2 A7 N c7 ((L.take k ++ x :: L.drop k).map strV) → Below B2 wr w7 → ∃ (L' : List (List UInt8)) (m' : Nat) (C' : Option Addr) (d2' : Nat) (left' : List UInt8 → Bool) (cnt'' : Nat), (Value.slice A7 N c7) = .slice C' m' d2' ∧ cnt'' + 1 ≤ gO - 1 ∧ m' ≤ 400 ∧ Sec (Rising L' ∧ Outs S L' left' ∧ m' = L'.length) ∧
                        Sec (RanAt 9 4 Lit.bool w7 b r S.length (seenF S) left' cnt'' ∧ Win w7 B2 C' m' d2' (L'.map strV) ∧ Gr w w7 ∧ B2 ≤ w7.heap.size)) := sec (fun w7 A7 c7 N hN h7 b7 => by
                      have ho := HO.out.2.1.put (L' := L.take k ++ x :: L.drop k) HIN.out.1 HIN.out.2.1 HINS.out.1.nodup HINS.out.2.2
                      have hle := ho.le
                      have hl1 := HINS.out.2.1
                      have hl2 := HLm.out
                      refine ⟨_, _, A7, c7, _, cnt', rfl, HCN.out.1, by omega, sec ⟨HINS.out.1, ho, by omega⟩, sec ⟨HR3.out.below b7 hbr hrr, h7, Gr.low G3.out b7 (by omega), Nat.le_trans S3 b7.size⟩⟩)
                    clear HINS HLo HIN HO HR3
                    have hlit : (wr.drew.alloc (.cells #[.string (bs x)] 9)).ownsRow wr.heap.size 9 1 (.slice (some ⟨wr.heap.size, 0, none⟩) 1 1) 1 [strV x] := World.ownsRow_lit wr.drew #[.string (bs x)] 1 (Nat.le_refl _) (by unfold maxLen; omega) rfl
                    have HLit := sec hlit
                    have gl : Gr wr (wr.drew.alloc (.cells #[.string (bs x)] 9)) := (Gr.refl wr).drew.alloc _
                    have hmd : m ≤ d2 := W3.out.le
                    have HCL := sec (W3.out.clip hk)
                    by_cases hkm : k < m
                    · have hkl : k < L.length := by have := HLm.out; omega
                      have hkmi : (k : Int) < (m : Int) := by omega
                      obtain ⟨q, off, rfl, e0⟩ := W3.out.cellAt hkl
                      have hlb := HUp.out hkl
                      obtain ⟨y, hy⟩ : ∃ y, y = L[k] := ⟨_, rfl⟩
                      rw [← hy] at e0 hlb
                      have q1 : Op.bytesLess y x = false := hlb
                      clear hy hlb hlit HUp hcon
                      have hdk : ¬ d2 = k := by omega
                      have hkd : k ≤ d2 := by omega
                      have HRE : Sec (Row wr 1 (some ⟨q, off + k, none⟩) (m - k) ((L.map strV).drop k)) := sec (by have := W3.out.rest hk; rwa [if_neg hdk] at this)
                      have hbx : (1 + (m - k)) * 16 ≤ 140737488355328 := by omega
                      have hb6 : 1 + (m - k) ≤ maxLen := by unfold maxLen; omega
                      have hby : (k + (1 + (m - k))) * 16 ≤ 140737488355328 := by omega
                      have hb7 : k + (1 + (m - k)) ≤ maxLen := by unfold maxLen; omega
                      go_upto_region 34 with fail
                      go_region_law (first
                        | (refine step_append_row E.str rfl (.tmp 92) (.tmp 95) rfl (B := wr.heap.size) (A0 := some ⟨wr.heap.size, 0, none⟩) (n0 := 1) (cap0 := 1) (xs := [strV x]) rfl HLit.out rfl (HRE.out.gr gl) (fun h => by cases h) (fun v hv => by obtain ⟨l, _, rfl⟩ := List.mem_map.1 (List.mem_of_mem_drop hv); rfl) hbx hb6 gl.size ?_; intro A6 c6 w6 o6 k6)
                        | (refine step_append_win E.str rfl (.tmp 90) (.tmp 96) rfl rfl (HCL.out.gr (gl.grown k6 (fun j hj => by simp [Value.ownBlock] at hj; omega))) rfl (Row.own o6) (own_nilK o6) (fun v hv => by rcases List.mem_append.1 hv with hv | hv; (simp only [List.mem_singleton] at hv; subst hv; rfl); (obtain ⟨l, _, rfl⟩ := List.mem_map.1 (List.mem_of_mem_drop hv); rfl)) hby hb7 (Nat.le_trans S3 (gl.grown k6 (fun j hj => by simp [Value.ownBlock] at hj; omega)).size) ?_; intro A7 c7 w7 W7 b7))
                      have hmap : (L.take k ++ x :: L.drop k).map strV = (L.map strV).take k ++ ([strV x] ++ (L.map strV).drop k) := by simp [List.map_take, List.map_drop]
                      go_wp2_with fail
                      go_roundg (gO - 1)
                      case rel => exact HRel.out w7 A7 c7 _ (by omega) (by rw [hmap]; exact W7) (Below.trans ((gl.grown k6 (fun j hj => by simp [Value.ownBlock] at hj; omega)).below.mono S3) b7)
                      case measure => exact Nat.sub_lt HCN.out.2 (by omega)
                    · obtain rfl : k = m := by omega
                      clear hkm hlit HUp hcon
                      have HDR : Sec ((L.map strV).drop k = []) := sec (List.drop_of_length_le (by rw [List.length_map, HLm.out]; exact Nat.le_refl _))
                      cases C with
                      | none =>
                        have h0 : k = 0 ∧ d2 = 0 := by
                          have h1 := W3.out.lies
                          rcases h1 with ⟨_, h2⟩ | ⟨_, _, e, _⟩
                          · omega
                          · cases e
                        obtain ⟨rfl, rfl⟩ := h0
                        have HRE : Sec (Row wr 1 none 0 ((L.map strV).drop 0)) := sec (by rw [HDR.out]; exact Row.nil _ _ _)
                        have hbx : (1 + 0) * 16 ≤ 140737488355328 := by omega
                        have hb6 : 1 + 0 ≤ maxLen := by unfold maxLen; omega
                        have hby : (0 + (1 + 0)) * 16 ≤ 140737488355328 := by omega
                        have hb7 : 0 + (1 + 0) ≤ maxLen := by unfold maxLen; omega
                        go_upto_region 34 with fail
                        go_region_law (first
                          | (refine step_append_row E.str rfl (.tmp 92) (.tmp 95) rfl (B := wr.heap.size) (A0 := some ⟨wr.heap.size, 0, none⟩) (n0 := 1) (cap0 := 1) (xs := [strV x]) rfl HLit.out rfl (HRE.out.gr gl) (fun _ => ⟨rfl, rfl⟩) (fun v hv => by obtain ⟨l, _, rfl⟩ := List.mem_map.1 (List.mem_of_mem_drop hv); rfl) hbx hb6 gl.size ?_; intro A6 c6 w6 o6 k6)
                          | (refine step_append_win E.str rfl (.tmp 90) (.tmp 96) rfl rfl (HCL.out.gr (gl.grown k6 (fun j hj => by simp [Value.ownBlock] at hj; omega))) rfl (Row.own o6) (own_nilK o6) (fun v hv => by rcases List.mem_append.1 hv with hv | hv; (simp only [List.mem_singleton] at hv; subst hv; rfl); (obtain ⟨l, _, rfl⟩ := List.mem_map.1 (List.mem_of_mem_drop hv); rfl)) hby hb7 (Nat.le_trans S3 (gl.grown k6 (fun j hj => by simp [Value.ownBlock] at hj; omega)).size) ?_; intro A7 c7 w7 W7 b7))
                        have hmap : (L.take 0 ++ x :: L.drop 0).map strV = (L.map strV).take 0 ++ ([strV x] ++ (L.map strV).drop 0) := by simp [List.map_take, List.map_drop]
                        go_wp2_with fail
                        go_roundg (gO - 1)
                        case rel => exact HRel.out w7 A7 c7 _ (by omega) (by rw [hmap]; exact W7) (Below.trans ((gl.grown k6 (fun j hj => by simp [Value.ownBlock] at hj; omega)).below.mono S3) b7)
                        case measure => exact Nat.sub_lt HCN.out.2 (by omega)
                      | some ad =>
                        obtain ⟨q, off, hqo⟩ : ∃ q off, some ad = some (⟨q, off, none⟩ : Addr) := by
                          rcases W3.out.lies with ⟨e, _⟩ | ⟨q, off, e, _⟩
                          · cases e
                          · exact ⟨q, off, e⟩
                        injection hqo with hqo
                        subst hqo
                        by_cases hdk : d2 = k
                        · subst hdk
                          have HRE : Sec (Row wr 1 (some ⟨q, off, none⟩) 0 ((L.map strV).drop d2)) := sec (by rw [HDR.out]; exact Row.nil _ _ _)
                          have hbx : (1 + 0) * 16 ≤ 140737488355328 := by omega
                          have hb6 : 1 + 0 ≤ maxLen := by unfold maxLen; omega
                          have hby : (d2 + (1 + 0)) * 16 ≤ 140737488355328 := by omega
                          have hb7 : d2 + (1 + 0) ≤ maxLen := by unfold maxLen; omega
                          go_upto_region 34 with fail
                          go_region_law (first
                            | (refine step_append_row E.str rfl (.tmp 92) (.tmp 95) rfl (B := wr.heap.size) (A0 := some ⟨wr.heap.size, 0, none⟩) (n0 := 1) (cap0 := 1) (xs := [strV x]) rfl HLit.out rfl (HRE.out.gr gl) (fun h => by cases h) (fun v hv => by obtain ⟨l, _, rfl⟩ := List.mem_map.1 (List.mem_of_mem_drop hv); rfl) hbx hb6 gl.size ?_; intro A6 c6 w6 o6 k6)
                            | (refine step_append_win E.str rfl (.tmp 90) (.tmp 96) rfl rfl (HCL.out.gr (gl.grown k6 (fun j hj => by simp [Value.ownBlock] at hj; omega))) rfl (Row.own o6) (own_nilK o6) (fun v hv => by rcases List.mem_append.1 hv with hv | hv; (simp only [List.mem_singleton] at hv; subst hv; rfl); (obtain ⟨l, _, rfl⟩ := List.mem_map.1 (List.mem_of_mem_drop hv); rfl)) hby hb7 (Nat.le_trans S3 (gl.grown k6 (fun j hj => by simp [Value.ownBlock] at hj; omega)).size) ?_; intro A7 c7 w7 W7 b7))
                          have hmap : (L.take d2 ++ x :: L.drop d2).map strV = (L.map strV).take d2 ++ ([strV x] ++ (L.map strV).drop d2) := by simp [List.map_take, List.map_drop]
                          go_wp2_with fail
                          go_roundg (gO - 1)
                          case rel => exact HRel.out w7 A7 c7 _ (by omega) (by rw [hmap]; exact W7) (Below.trans ((gl.grown k6 (fun j hj => by simp [Value.ownBlock] at hj; omega)).below.mono S3) b7)
                          case measure => exact Nat.sub_lt HCN.out.2 (by omega)
                        · have hkd : k ≤ d2 := by omega
                          have HRE : Sec (Row wr 1 (some ⟨q, off + k, none⟩) 0 ((L.map strV).drop k)) := sec (by rw [HDR.out]; exact Row.nil _ _ _)
                          have hbx : (1 + 0) * 16 ≤ 140737488355328 := by omega
                          have hb6 : 1 + 0 ≤ maxLen := by unfold maxLen; omega
                          have hby : (k + (1 + 0)) * 16 ≤ 140737488355328 := by omega
                          have hb7 : k + (1 + 0) ≤ maxLen := by unfold maxLen; omega
                          go_upto_region 34 with fail
                          go_region_law (first
                            | (refine step_append_row E.str rfl (.tmp 92) (.tmp 95) rfl (B := wr.heap.size) (A0 := some ⟨wr.heap.size, 0, none⟩) (n0 := 1) (cap0 := 1) (xs := [strV x]) rfl HLit.out rfl (HRE.out.gr gl) (fun h => by cases h) (fun v hv => by obtain ⟨l, _, rfl⟩ := List.mem_map.1 (List.mem_of_mem_drop hv); rfl) hbx hb6 gl.size ?_; intro A6 c6 w6 o6 k6)
                            | (refine step_append_win E.str rfl (.tmp 90) (.tmp 96) rfl rfl (HCL.out.gr (gl.grown k6 (fun j hj => by simp [Value.ownBlock] at hj; omega))) rfl (Row.own o6) (own_nilK o6) (fun v hv => by rcases List.mem_append.1 hv with hv | hv; (simp only [List.mem_singleton] at hv; subst hv; rfl); (obtain ⟨l, _, rfl⟩ := List.mem_map.1 (List.mem_of_mem_drop hv); rfl)) hby hb7 (Nat.le_trans S3 (gl.grown k6 (fun j hj => by simp [Value.ownBlock] at hj; omega)).size) ?_; intro A7 c7 w7 W7 b7))
                          have hmap : (L.take k ++ x :: L.drop k).map strV = (L.map strV).take k ++ ([strV x] ++ (L.map strV).drop k) := by simp [List.map_take, List.map_drop]
                          go_wp2_with fail
                          go_roundg (gO - 1)
                          case rel => exact HRel.out w7 A7 c7 _ (by omega) (by rw [hmap]; exact W7) (Below.trans ((gl.grown k6 (fun j hj => by simp [Value.ownBlock] at hj; omega)).below.mono S3) b7)
                          case measure => exact Nat.sub_lt HCN.out.2 (by omega)
end Go.Proofs.YtoamnifnfkgbiaaGreatDoor

namespace Go.Proofs.YtoamnifnfkgbiaaGreatDoor
set_option maxRecDepth 100000
open Go.RowKit
set_option linter.unusedVariables false
/-- two windows in two blocks -/
def Apart (A A' : Option Addr) (cap cap' : Nat) : Prop := 0 < cap → 0 < cap' → ∀ g o g' o', A = some ⟨g, o, none⟩ → A' = some ⟨g', o', none⟩ → g ≠ g'
theorem Apart.symm {A A' : Option Addr} {cap cap' : Nat} (h : Apart A A' cap cap') : Apart A' A cap' cap := fun h1 h2 g o g' o' e e' k => h h2 h1 g' o' g o e' e k.symm
theorem Win.low {w : World} {B B' n cap : Nat} {A : Option Addr} {xs : List Value} (h : Win w B A n cap xs) (hB : B' ≤ B) : Win w B' A n cap xs := by
  refine ⟨h.len, h.le, h.max, ?_⟩
  rcases h.lies with h0 | ⟨g, off, e, h1, h2⟩
  · exact .inl h0
  · exact .inr ⟨g, off, e, fun hc => ⟨Nat.le_trans hB (h1 hc).1, (h1 hc).2⟩, h2⟩
theorem Apart.shift {A : Option Addr} {q off d cap : Nat} (h : Apart A (some ⟨q, off, none⟩) cap d) : Apart A (if d = 1 then some ⟨q, off, none⟩ else some ⟨q, off + 1, none⟩) cap (d - 1) := by
  intro h1 h2 g o g' o' e e'
  rw [if_neg (by omega)] at e'
  injection e' with e'
  injection e' with e1 _
  subst e1
  exact h h1 (by omega) g o q off e rfl
theorem win_append2 {t e ty : TypeId} {z : Value} {bytes : Nat} (E : ElemOk t e z 1 bytes) {w : World} {B n cap : Nat} {A : Option Addr} {xs : List Value} (h : Win w B A n cap xs)
    {A' : Option Addr} {m c : Nat} {vs : List Value} (hrow : Row w 1 A' m vs) (hA' : A' = none → m = 0 ∧ c = 0) (h1 : ∀ u ∈ vs, u.oneCell' = true)
    (hbytes : (n + m) * bytes ≤ 140737488355328) (h63 : n + m ≤ maxLen) (hB : B ≤ w.heap.size) :
    ∃ A2 cap2 w', (Builtin.append_ #[t, t] ty #[.slice A n cap, .slice A' m c]).run Tryz.prog w = .ok (.slice A2 (n + m) cap2) w' ∧ Win w' B A2 (n + m) cap2 (xs ++ vs) ∧ Below B w w' ∧
      ∀ B' A' n' cap' ys, Win w B' A' n' cap' ys → Apart A A' cap cap' → Win w' B' A' n' cap' ys ∧ Apart A2 A' cap2 cap' := by
  have hvl : vs.length = m := by have := hrow.len; rwa [Nat.mul_one] at this
  have hxl := h.len
  rcases h.lies with ⟨rfl, h0⟩ | ⟨g, off, rfl, hg1, hg2, hg3⟩
  · have hn : n = 0 := by have := h.le; omega
    subst h0 hn
    have hx : xs = [] := List.eq_nil_of_length_eq_zero hxl
    subst hx
    obtain ⟨A2, cap2, w', hr, ho, hgr⟩ := run_append_row (ty := ty) E (B := w.heap.size) (World.ownsRow_nil w w.heap.size e 1) hrow hA' h1 hbytes h63 (Nat.le_refl _)
    have hG : Gr w w' := ⟨hgr.os, hgr.tape, hgr.output, hgr.size, fun k hk => hgr.block k (by omega) (by simp [Value.ownBlock])⟩
    refine ⟨A2, cap2, w', hr, (Win.own ho).low hB, Below.mono hG hB, fun B' A3 n' cap' ys h' ha => ⟨h'.gr hG, fun c1 c2 g o g' o' e1 e2 => ?_⟩⟩
    have w2 := Win.own ho
    rcases w2.lies with ⟨e3, _⟩ | ⟨g3, o3, e3, h3, _⟩
    · rw [e1] at e3; cases e3
    · rw [e1] at e3; injection e3 with e3; injection e3 with e3 e4
      rcases h'.lies with ⟨e5, _⟩ | ⟨g5, o5, e5, h5, _⟩
      · rw [e2] at e5; cases e5
      · rw [e2] at e5; injection e5 with e5; injection e5 with e5 e6
        have := (h3 c1).1
        have := (h5 c2).2
        omega
  · obtain ⟨i0, hi0, hz0, hz1, hz2⟩ := info_parts E.info
    have hsrc : Src Tryz.prog i0.size t (.slice A' m c) m vs w := by
      rw [hz1]
      cases A' with
      | none =>
        obtain ⟨rfl, rfl⟩ := hA' rfl
        have hv : vs = [] := List.eq_nil_of_length_eq_zero hvl
        subst hv
        exact Src.ofNil w E.under 0
      | some ad =>
        refine Src.ofSlice w E.under ad m c vs (by rw [hvl, Nat.mul_one]) (fun j u hu => ?_) h1
        have hj : 0 < m := by have := (List.getElem?_eq_some_iff.1 hu).1; omega
        obtain ⟨b, o, e', hc⟩ := Row.at_ hrow hj
        injection e' with e'
        subst e'
        have : (⟨b, o, none⟩ : Addr).add j = ⟨b, o + j, none⟩ := by unfold Addr.add; split <;> simp_all
        rw [this]
        exact hc j u hu
    by_cases hroom : n + m ≤ cap
    · have hr := run_append_room_src (P := Tryz.prog) w t t ty e i0 E.under hi0 g off n cap _ m vs hsrc hroom
        (fun j hj => by rw [hz1, Nat.mul_one, Nat.add_assoc]; exact (hg3 (n + j) (by omega)).1)
        (fun j hj => by rw [hz1, Nat.mul_one, Nat.add_assoc]; exact (hg3 (n + j) (by omega)).2)
      rw [hz1, Nat.mul_one] at hr
      refine ⟨_, _, _, hr, ⟨by rw [List.length_append]; omega, hroom, h.max, .inr ⟨g, off, rfl, fun hc => ?_, fun j v hv => ?_, fun j hj => ?_⟩⟩, ?_, fun B' A3 n' cap' ys h' ha => ⟨?_, ha⟩⟩
      · rw [size_setCellsW]; exact hg1 hc
      · by_cases hjn : j < n
        · rw [List.getElem?_append_left (by omega)] at hv
          rw [World.cell?_setCells_out g vs (off + n) w ⟨g, off + j, none⟩ (fun _ _ => .inl (by simp only; omega))]
          exact hg2 j v hv
        · rw [List.getElem?_append_right (by omega)] at hv
          obtain ⟨hj2, hv2⟩ := List.getElem?_eq_some_iff.1 hv
          have := World.cell?_setCells_in g vs (off + n) w (fun k hk => by rw [Nat.add_assoc]; exact (hg3 (n + k) (by omega)).1) (j - xs.length) hj2
          rw [show off + n + (j - xs.length) = off + j by omega] at this
          rw [this, hv2]
      · refine ⟨World.isSome_setCells g vs (off + n) w _ (hg3 j hj).1, ?_⟩
        rw [World.frozen?_setCells]
        exact (hg3 j hj).2
      · by_cases hc : 0 < cap
        · exact below_setCellsW g (hg1 hc).1 _ _ _
        · have hv : vs = [] := List.eq_nil_of_length_eq_zero (by omega)
          subst hv
          exact Below.refl _ _
      · by_cases hc : 0 < cap
        · refine ⟨h'.len, h'.le, h'.max, ?_⟩
          rcases h'.lies with h0 | ⟨g5, o5, e5, k1, k2, k3⟩
          · exact .inl h0
          · have hne : 0 < cap' → g5 ≠ g := fun hc' e => ha hc hc' g off g5 o5 rfl e5 e.symm
            refine .inr ⟨g5, o5, e5, fun hc' => by rw [size_setCellsW]; exact k1 hc', fun j v hv => ?_, fun j hj => ?_⟩
            · have hj := (List.getElem?_eq_some_iff.1 hv).1
              have hl' := h'.len
              have hle' := h'.le
              rw [World.cell?_setCells_out g vs (off + n) w ⟨g5, o5 + j, none⟩ (fun e _ => absurd e (hne (by omega)))]
              exact k2 j v hv
            · refine ⟨World.isSome_setCells g vs (off + n) w _ (k3 j hj).1, ?_⟩
              rw [World.frozen?_setCells]
              exact (k3 j hj).2
        · have hv : vs = [] := List.eq_nil_of_length_eq_zero (by omega)
          subst hv
          exact h'
    · have hold : (Builtin.firstCells i0.size n (.slice (some ⟨g, off, none⟩) n cap)).run Tryz.prog w.drew = .ok xs.toArray w.drew := by
        rw [hz1]
        refine run_firstCells_some w.drew 1 n ⟨g, off, none⟩ n cap xs (by rw [hxl, Nat.mul_one]) (fun j u hu => ?_)
        have : (⟨g, off, none⟩ : Addr).add j = ⟨g, off + j, none⟩ := by unfold Addr.add; split <;> simp_all
        rw [this]
        exact hg2 j u hu
      have hr := run_append_grow_src (P := Tryz.prog) w t t ty e i0 z E.under hi0 hz0 (some ⟨g, off, none⟩) n cap xs hold _ m vs hsrc (by omega) (by unfold maxLen at h63; omega) (growslice_fits (by omega) (by rw [hz2]; exact hbytes))
      have hge := grownCap_ge w (n + m) cap e
      have hcm := grownCap_le_maxLen w (n + m) cap e h63
      refine ⟨_, _, _, hr, ⟨by rw [List.length_append]; omega, hge, hcm, .inr ⟨w.heap.size, 0, rfl, fun _ => ⟨hB, by simp⟩, fun j v hv => ?_, fun j hj => ?_⟩⟩, ?_, fun B' A3 n' cap' ys h' ha => ⟨?_, ?_⟩⟩
      · rw [Nat.zero_add]
        have hb := Blk.new w.drew e ((xs ++ vs).toArray ++ Builtin.zeroCells z.cells (grownCap w (n + m) cap e - (n + m)))
        rw [show w.heap.size = w.drew.heap.size from rfl, hb.cell, Array.getElem?_append_left (by have := (List.getElem?_eq_some_iff.1 hv).1; simpa using this)]
        simpa using hv
      · rw [Nat.zero_add]
        have hb := Blk.new w.drew e ((xs ++ vs).toArray ++ Builtin.zeroCells z.cells (grownCap w (n + m) cap e - (n + m)))
        rw [show w.heap.size = w.drew.heap.size from rfl, hb.cell, hb.frozen]
        refine ⟨?_, rfl⟩
        rw [Array.getElem?_eq_getElem (by simp only [Array.size_append, List.size_toArray, List.length_append, size_zeroCells, E.zcells]; omega)]
        rfl
      · exact (Below.drew (Below.refl B w)).alloc hB _
      · exact h'.gr ((Gr.refl w).drew.alloc _)
      · intro c1 c2 ga oa gb ob e1 e2
        injection e1 with e1; injection e1 with e1 _
        rcases h'.lies with ⟨e5, _⟩ | ⟨g5, o5, e5, h5, _⟩
        · rw [e2] at e5; cases e5
        · rw [e2] at e5; injection e5 with e5; injection e5 with e5 _
          have := (h5 c2).2
          omega
theorem wpList_append_win2 {ops : Array Oper} {rest : List Oper} {o : Oper} {a : Act} {Q : Exit → Act → World → Prop} {t e : TypeId} {z : Value} {bytes : Nat} (E : ElemOk t e z 1 bytes) (hgd : o.guard = none) (s x : Operand)
    (ho : o.op = .call { callee := .builtin .append, args := #[s, x], argTypes := #[t, t] }) {B : Nat} {w : World}
    {A : Option Addr} {n cap : Nat} {xs : List Value} (hs : a.eval s = .slice A n cap) (h : Win w B A n cap xs)
    {A' : Option Addr} {m c : Nat} {vs : List Value} (hx : a.eval x = .slice A' m c) (hrow : Row w 1 A' m vs) (hA' : A' = none → m = 0 ∧ c = 0) (h1 : ∀ u ∈ vs, u.oneCell' = true)
    (hbytes : (n + m) * bytes ≤ 140737488355328) (h63 : n + m ≤ maxLen) (hB : B ≤ w.heap.size)
    {Bo : Nat} {Ao : Option Addr} {no capo : Nat} {ys : List Value} (hO : Win w Bo Ao no capo ys) (hAp : Apart A Ao cap capo)
    (K : ∀ A2 cap2 w', Win w' B A2 (n + m) cap2 (xs ++ vs) → Below B w w' → Win w' Bo Ao no capo ys → Apart A2 Ao cap2 capo → wpList Tryz.prog ops Q rest (a.put o.dst (.slice A2 (n + m) cap2)) w') : wpList Tryz.prog ops Q (o :: rest) a w := by
  refine wpList_plain hgd fun K' hK' => ?_
  obtain ⟨A2, cap2, w', hr, h2, h3, h4⟩ := win_append2 (ty := o.type) E h hrow hA' h1 hbytes h63 hB
  obtain ⟨h5, h6⟩ := h4 _ _ _ _ _ hO hAp
  unfold Oper.wp execOp
  simp only [ho, resolve, invoke, builtin, Sem.run_bind, Sem.run_pure, Result.andThen_ok, List.map_toArray, List.map_cons, List.map_nil, hs, hx, hr]
  exact hK' _ _ (K A2 cap2 w' h2 h3 h5 h6)

theorem rowkW {W : World} {g : Nat} {T : TypeId} {v : Value} (h : Blk W g T #[v]) : Row W 1 (some ⟨g, 0, none⟩) 1 [v] := rowkK h rfl

set_option maxHeartbeats 16000000 in
theorem onward_any (g : Nat) (caps : Array Value) (G : Tl) (eg : ∀ args w, (callFunc g args).run Tryz.prog w = .ok (.enter g args) w) (id frm : List UInt8) (w : World) (hT : Tells g caps G w) (hG : ∀ x, (G x).1.length ≤ 1048576)
    (hid : id.length ≤ 1099511627776) :
    Calls Tryz.prog 18 #[.func (.func g) #[] caps, .string (bs id), .string (bs frm)] w (DsPost w G id frm) := by
  have HT := sec hT
  have HGL := sec hG
  have HI := sec hid
  clear hT hG hid
  obtain ⟨wa, hwa⟩ : ∃ x, x = w := ⟨_, rfl⟩
  have HWA := sec (show w.heap.size ≤ wa.heap.size by rw [hwa]; exact Nat.le_refl _)
  have hGa : Gr w ((w.alloc (.cells #[] 9)).alloc (.cells #[.string (bs id)] 9)) := ((Gr.refl w).alloc _).alloc _
  have hH : Win ((w.alloc (.cells #[] 9)).alloc (.cells #[.string (bs id)] 9)) wa.heap.size (some ⟨w.heap.size, 0, none⟩) 0 0 [] := Win.bare _ _
  have hW : Win ((w.alloc (.cells #[] 9)).alloc (.cells #[.string (bs id)] 9)) wa.heap.size (some ⟨w.heap.size + 1, 0, none⟩) 1 1 ([id].map strV) := by
    have h := Win.own (e := 9) (World.ownsRow_lit (base := wa.heap.size) (w.alloc (.cells #[] 9)) #[.string (bs id)] 1 (by rw [hwa]; simp) (by unfold maxLen; omega) rfl)
    rw [World.size_alloc] at h
    exact h
  have H0 := sec (And.intro hH (And.intro hW (And.intro (show Apart (some ⟨w.heap.size, 0, none⟩) (some ⟨w.heap.size + 1, 0, none⟩) 0 1 from fun h => by omega) (And.intro hGa (show wa.heap.size ≤ _ by rw [hwa]; exact hGa.size)))))
  clear hH hW hGa hwa
  go_enter Tryz.func18, Tryz.ntmps18
  go_wp2_with fail
  go_loopg [7, 8] (1 + 65 * 400) (fun fuel hv wv wr => ∃ (W S : List (List UInt8)) (m : Nat) (B : Option Addr) (d nh : Nat) (Ah : Option Addr) (ch : Nat), wv = .slice B m d ∧ hv = .slice Ah nh ch ∧ m + 65 * (400 - S.length) ≤ fuel ∧ S.length ≤ 400 ∧ m ≤ 1 + 64 * S.length ∧ nh = S.length ∧
      Sec ((∀ b, Ds G frm S W b → Ds G frm [] [id] b) ∧ W.length = m ∧ (∀ x ∈ W, x.length ≤ 1099511627776)) ∧ Sec (Win wr wa.heap.size Ah nh ch (S.map strV) ∧ Win wr wa.heap.size B m d (W.map strV) ∧ Apart Ah B ch d ∧ Gr w wr ∧ wa.heap.size ≤ wr.heap.size))
  case atStart => exact ⟨[id], [], 1, _, 1, 0, _, 0, rfl, rfl, by simp, by simp, by simp, rfl, sec ⟨fun b h => h, rfl, fun x hx => by simp only [List.mem_singleton] at hx; subst hx; exact HI.out⟩, sec H0.out⟩
  case round =>
    clear H0
    obtain ⟨W, S, m, B, d, nh, Ah, ch, rfl, rfl, hf, hS, hmn, rfl, HR, HM⟩ := hrel
    cases W with
    | nil =>
      obtain rfl : m = 0 := by have := HR.out.2.1; simpa using this.symm
      have HQ := sec (HR.out.1 false .nil)
      go_wp2_with fail
      go_ret
      exact ⟨false, HQ.out, rfl, HM.out.2.2.2.1⟩
    | cons x ys =>
      obtain ⟨m', rfl⟩ : ∃ m', m = m' + 1 := ⟨m - 1, by have := HR.out.2.1; simp only [List.length_cons] at this; omega⟩
      have HYL : Sec (ys.length = m') := sec (by have := HR.out.2.1; simpa using this)
      obtain ⟨q, off, rfl, e0, W0⟩ := Win.first HM.out.2.1
      have hmp : (0 : Int) < (m' : Int) + 1 := by omega
      have hmd : m' + 1 ≤ d := HM.out.2.1.le
      have hAp := HM.out.2.2.1.shift
      obtain ⟨A', hA'⟩ : ∃ A', A' = (if d = 1 then some (⟨q, off, none⟩ : Addr) else some ⟨q, off + 1, none⟩) := ⟨_, rfl⟩
      rw [← hA'] at W0 hAp
      have hA2 := hA'.symm
      have HW := sec W0
      have HAp := sec hAp
      clear W0 hA' hAp
      by_cases hfu : 400 ≤ S.length
      · have hlt : ¬ (S.length : Int) < 400 := by omega
        have HQ := sec (HR.out.1 false (.full hfu))
        clear hfu
        go_wp2_with fail
        go_ret
        exact ⟨false, HQ.out, rfl, HM.out.2.2.2.1⟩
      have hlt : (S.length : Int) < 400 := by omega
      have hS4 : S.length < 400 := by omega
      by_cases hxf : x = frm
      · have qx : (x == frm) = true := by rw [hxf, beq_self_eq_true]
        have HQ := sec (HR.out.1 true (by rw [hxf]; exact .hit hS4))
        clear hxf hfu
        go_wp2_with fail
        go_ret
        exact ⟨true, HQ.out, rfl, HM.out.2.2.2.1⟩
      have qx : (x == frm) = false := by rw [beq_eq_false_iff_ne]; exact hxf
      have hx40 : x.length ≤ 1099511627776 := HR.out.2.2 x (by simp)
      have HYS : Sec (∀ y ∈ ys, y.length ≤ 1099511627776) := sec (fun y hy => HR.out.2.2 y (List.mem_cons_of_mem _ hy))
      have HXF := sec hxf
      have HK := sec HR.out.1
      have HIn : Sec (∀ W, Gr wr W → Calls Tryz.prog 61 #[.slice Ah S.length ch, .string (bs x)] W fun e w' => e = .returned (.bool (decide (x ∈ S))) ∧ Gr W w') := sec (fun W g => in_any S x Ah S.length ch W (Row.gr HM.out.1.row g) (by omega))
      have hbh : (S.length + 1) * 16 ≤ 140737488355328 := by omega
      have hmh : S.length + 1 ≤ maxLen := by unfold maxLen; omega
      clear hxf hfu HR
      by_cases hxS : x ∈ S
      · have HNXT : Sec (∀ b, Ds G frm S ys b → Ds G frm [] [id] b) := sec (fun b h => HK.out b (.skip hS4 HXF.out hxS h))
        rw [decide_eq_true hxS] at HIn
        clear hxS HK
        go_wp2_with (first
          | (go_at_call 61; (with_reducible refine Calls.mono (HIn.out wr (Gr.refl _)) ?_); rintro e w1 ⟨rfl, g1⟩; have GL := g1.alloc (.cells #[.string (bs x)] 9); have HdL := HM.out.1.gr GL; have HwL := HW.out.gr GL; have SL : wa.heap.size ≤ (w1.alloc (.cells #[.string (bs x)] 9)).heap.size := Nat.le_trans HM.out.2.2.2.2 GL.size; have RL : Row (w1.alloc (.cells #[.string (bs x)] 9)) 1 (some ⟨w1.heap.size, 0, none⟩) 1 [strV x] := rowkW (Blk.new w1 9 #[.string (bs x)])))
        go_roundg (gk - 1)
        case rel => exact ⟨ys, S, m', A', d - 1, S.length, Ah, ch, rfl, rfl, by omega, hS, by omega, rfl, sec ⟨HNXT.out, HYL.out, HYS.out⟩, sec ⟨HM.out.1.gr g1, HW.out.gr g1, HAp.out, HM.out.2.2.2.1.trans g1, Nat.le_trans HM.out.2.2.2.2 g1.size⟩⟩
        case measure => omega
      rw [decide_eq_false hxS] at HIn
      have HMO : Sec (∀ b, Ds G frm (S ++ [x]) (ys ++ nxT G x) b → Ds G frm [] [id] b) := sec (fun b h => HK.out b (.more hS4 HXF.out hxS h))
      have HTx : Sec (∀ W, Gr w W → Calls Tryz.prog g (#[.string (bs x)] ++ caps) W fun e w' => e = .returned (.tuple #[.string (bs (G x).1), .int .i64 (G x).2]) ∧ Gr W w') := sec (fun W h => HT.out W x h hx40)
      have HGx := HGL.out x
      have HNX : Sec ((nxT G x).length ≤ 4 ∧ ∀ y ∈ nxT G x, y.length ≤ 32) := sec nxT_le
      have HND : Sec (nxT G x = if (G x).2 = 0 ∧ (obD (G x).1).2 = 0 ∧ (obD (G x).1).1.kind = 3 then (obD (G x).1).1.pars else []) := sec rfl
      obtain ⟨N, hN⟩ : ∃ N, N = nxT G x := ⟨_, rfl⟩
      rw [← hN] at HNX HND HMO
      obtain ⟨⟨s, er⟩, hGx⟩ : ∃ r, r = G x := ⟨_, rfl⟩
      rw [← hGx] at HTx HGx HND
      simp only at HTx HGx HND
      clear hGx hxS HK hN
      by_cases her : er = 0
      case neg =>
        have qer : (er != 0) = true := by rw [bne_iff_ne]; exact her
        have HNXT : Sec (∀ b, Ds G frm (S ++ [x]) ys b → Ds G frm [] [id] b) := sec (fun b h => HMO.out b (by rw [HND.out, if_neg (fun h => her h.1), List.append_nil]; exact h))
        clear her HND HMO
        go_wp2_with (first
          | (go_at_call 61; (with_reducible refine Calls.mono (HIn.out wr (Gr.refl _)) ?_); rintro e w1 ⟨rfl, g1⟩; have GL := g1.alloc (.cells #[.string (bs x)] 9); have HdL := HM.out.1.gr GL; have HwL := HW.out.gr GL; have SL : wa.heap.size ≤ (w1.alloc (.cells #[.string (bs x)] 9)).heap.size := Nat.le_trans HM.out.2.2.2.2 GL.size; have RL : Row (w1.alloc (.cells #[.string (bs x)] 9)) 1 (some ⟨w1.heap.size, 0, none⟩) 1 [strV x] := rowkW (Blk.new w1 9 #[.string (bs x)]))
          | (at_builtin; refine wpList_append_win2 E.str rfl (.tmp 35) (.tmp 37) rfl rfl HdL rfl RL (fun h => by cases h) (fun v hv => by simp only [List.mem_singleton] at hv; subst hv; rfl) hbh hmh SL HwL HAp.out ?_; intro A5 c5 w5 H5 b5 W5 P5; have HH5 := sec (And.intro H5 (And.intro W5 P5)); clear H5 W5 P5; have G5 : Gr w w5 := Gr.low (HM.out.2.2.2.1.trans GL) b5 HWA.out; have S5 : wa.heap.size ≤ w5.heap.size := Nat.le_trans SL b5.size)
          | (refine Calls.mono (HTx.out w5 G5) ?_; rintro e w6 ⟨rfl, g6⟩))
        have GG : Gr w5 w6 := g6
        go_roundg (gk - 1)
        case rel => exact ⟨ys, S ++ [x], m', A', d - 1, S.length + 1, A5, c5, rfl, rfl, by rw [List.length_append]; simp only [List.length_cons, List.length_nil]; omega, by rw [List.length_append]; simp only [List.length_cons, List.length_nil]; omega, by rw [List.length_append]; simp only [List.length_cons, List.length_nil]; omega, by rw [List.length_append]; rfl, sec ⟨HNXT.out, HYL.out, HYS.out⟩, sec ⟨by rw [List.map_append]; exact HH5.out.1.gr GG, HH5.out.2.1.gr GG, HH5.out.2.2.symm.symm, G5.trans GG, Nat.le_trans S5 GG.size⟩⟩
        case measure => omega
      subst her
      have qer : ((0 : Int) != 0) = false := by decide
      have HD : Sec (∀ W, Calls Tryz.prog 59 #[.string (bs s)] W (DecPost W (obD s))) := sec (fun W => robDec_any s W (by omega))
      obtain ⟨⟨o, oe⟩, hO⟩ : ∃ r, r = obD s := ⟨_, rfl⟩
      rw [← hO] at HD HND
      simp only [true_and] at HND
      clear hO
      by_cases hoe : oe = 0
      case neg =>
        have qoe : (oe == 0) = false := by rw [beq_eq_false_iff_ne]; exact hoe
        have HNXT : Sec (∀ b, Ds G frm (S ++ [x]) ys b → Ds G frm [] [id] b) := sec (fun b h => HMO.out b (by rw [HND.out, if_neg (fun h => hoe h.1), List.append_nil]; exact h))
        clear hoe HND HMO
        go_wp2_with (first
          | (go_at_call 61; (with_reducible refine Calls.mono (HIn.out wr (Gr.refl _)) ?_); rintro e w1 ⟨rfl, g1⟩; have GL := g1.alloc (.cells #[.string (bs x)] 9); have HdL := HM.out.1.gr GL; have HwL := HW.out.gr GL; have SL : wa.heap.size ≤ (w1.alloc (.cells #[.string (bs x)] 9)).heap.size := Nat.le_trans HM.out.2.2.2.2 GL.size; have RL : Row (w1.alloc (.cells #[.string (bs x)] 9)) 1 (some ⟨w1.heap.size, 0, none⟩) 1 [strV x] := rowkW (Blk.new w1 9 #[.string (bs x)]))
          | (at_builtin; refine wpList_append_win2 E.str rfl (.tmp 35) (.tmp 37) rfl rfl HdL rfl RL (fun h => by cases h) (fun v hv => by simp only [List.mem_singleton] at hv; subst hv; rfl) hbh hmh SL HwL HAp.out ?_; intro A5 c5 w5 H5 b5 W5 P5; have HH5 := sec (And.intro H5 (And.intro W5 P5)); clear H5 W5 P5; have G5 : Gr w w5 := Gr.low (HM.out.2.2.2.1.trans GL) b5 HWA.out; have S5 : wa.heap.size ≤ w5.heap.size := Nat.le_trans SL b5.size)
          | (go_at_call 59; (with_reducible refine Calls.mono (HD.out _) ?_); rintro e w3 ⟨A3, c3, B3, d3, rfl, r3, g3⟩)
          | (refine wpList_store_blk rfl 91 (.tmp 12) (.tmp 50) rfl (g := w3.heap.size) (cs' := obA o A3 c3 B3 d3) rfl rfl (Blk.new w3 _ _) aggOb rfl (obA_one _ _ _ _ _) ?_; intro w4 h4 hg4; have z34 : Gr w3 w4 := Gr.only ((Gr.refl w3).alloc _) hg4 (Nat.le_refl _); have g54 : Gr w5 w4 := (g6.trans g3).trans z34; have k0 : w4.cell? ⟨w3.heap.size, 0, none⟩ = some (.int .i64 o.kind) := h4.cell 0; have k4 : w4.cell? ⟨w3.heap.size, 4, none⟩ = some (.slice B3 o.pars.length d3) := h4.cell 4)
          | (refine Calls.mono (HTx.out w5 G5) ?_; rintro e w6 ⟨rfl, g6⟩))
        have GG : Gr w5 w4 := g54
        go_roundg (gk - 1)
        case rel => exact ⟨ys, S ++ [x], m', A', d - 1, S.length + 1, A5, c5, rfl, rfl, by rw [List.length_append]; simp only [List.length_cons, List.length_nil]; omega, by rw [List.length_append]; simp only [List.length_cons, List.length_nil]; omega, by rw [List.length_append]; simp only [List.length_cons, List.length_nil]; omega, by rw [List.length_append]; rfl, sec ⟨HNXT.out, HYL.out, HYS.out⟩, sec ⟨by rw [List.map_append]; exact HH5.out.1.gr GG, HH5.out.2.1.gr GG, HH5.out.2.2.symm.symm, G5.trans GG, Nat.le_trans S5 GG.size⟩⟩
        case measure => omega
      subst hoe
      by_cases hkd : o.kind = 3
      case neg =>
        have qk : (o.kind == 3) = false := by rw [beq_eq_false_iff_ne]; exact hkd
        have HNXT : Sec (∀ b, Ds G frm (S ++ [x]) ys b → Ds G frm [] [id] b) := sec (fun b h => HMO.out b (by rw [HND.out, if_neg (fun h => hkd h.2), List.append_nil]; exact h))
        clear hkd HND HMO
        go_wp2_with (first
          | (go_at_call 61; (with_reducible refine Calls.mono (HIn.out wr (Gr.refl _)) ?_); rintro e w1 ⟨rfl, g1⟩; have GL := g1.alloc (.cells #[.string (bs x)] 9); have HdL := HM.out.1.gr GL; have HwL := HW.out.gr GL; have SL : wa.heap.size ≤ (w1.alloc (.cells #[.string (bs x)] 9)).heap.size := Nat.le_trans HM.out.2.2.2.2 GL.size; have RL : Row (w1.alloc (.cells #[.string (bs x)] 9)) 1 (some ⟨w1.heap.size, 0, none⟩) 1 [strV x] := rowkW (Blk.new w1 9 #[.string (bs x)]))
          | (at_builtin; refine wpList_append_win2 E.str rfl (.tmp 35) (.tmp 37) rfl rfl HdL rfl RL (fun h => by cases h) (fun v hv => by simp only [List.mem_singleton] at hv; subst hv; rfl) hbh hmh SL HwL HAp.out ?_; intro A5 c5 w5 H5 b5 W5 P5; have HH5 := sec (And.intro H5 (And.intro W5 P5)); clear H5 W5 P5; have G5 : Gr w w5 := Gr.low (HM.out.2.2.2.1.trans GL) b5 HWA.out; have S5 : wa.heap.size ≤ w5.heap.size := Nat.le_trans SL b5.size)
          | (go_at_call 59; (with_reducible refine Calls.mono (HD.out _) ?_); rintro e w3 ⟨A3, c3, B3, d3, rfl, r3, g3⟩)
          | (refine wpList_store_blk rfl 91 (.tmp 12) (.tmp 50) rfl (g := w3.heap.size) (cs' := obA o A3 c3 B3 d3) rfl rfl (Blk.new w3 _ _) aggOb rfl (obA_one _ _ _ _ _) ?_; intro w4 h4 hg4; have z34 : Gr w3 w4 := Gr.only ((Gr.refl w3).alloc _) hg4 (Nat.le_refl _); have g54 : Gr w5 w4 := (g6.trans g3).trans z34; have k0 : w4.cell? ⟨w3.heap.size, 0, none⟩ = some (.int .i64 o.kind) := h4.cell 0; have k4 : w4.cell? ⟨w3.heap.size, 4, none⟩ = some (.slice B3 o.pars.length d3) := h4.cell 4)
          | (refine Calls.mono (HTx.out w5 G5) ?_; rintro e w6 ⟨rfl, g6⟩))
        have GG : Gr w5 w4 := g54
        go_roundg (gk - 1)
        case rel => exact ⟨ys, S ++ [x], m', A', d - 1, S.length + 1, A5, c5, rfl, rfl, by rw [List.length_append]; simp only [List.length_cons, List.length_nil]; omega, by rw [List.length_append]; simp only [List.length_cons, List.length_nil]; omega, by rw [List.length_append]; simp only [List.length_cons, List.length_nil]; omega, by rw [List.length_append]; rfl, sec ⟨HNXT.out, HYL.out, HYS.out⟩, sec ⟨by rw [List.map_append]; exact HH5.out.1.gr GG, HH5.out.2.1.gr GG, HH5.out.2.2.symm.symm, G5.trans GG, Nat.le_trans S5 GG.size⟩⟩
        case measure => omega
      have qk : (o.kind == 3) = true := by rw [hkd]; rfl
      have HNp : Sec (N = o.pars) := sec (by rw [HND.out, if_pos ⟨rfl, hkd⟩])
      have hpl : o.pars.length ≤ 4 := by have := HNX.out.1; rw [HNp.out] at this; exact this
      have hb6 : (m' + o.pars.length) * 16 ≤ 140737488355328 := by omega
      have h66 : m' + o.pars.length ≤ maxLen := by unfold maxLen; omega
      clear hkd HND
      go_wp2_with (first
        | (go_at_call 61; (with_reducible refine Calls.mono (HIn.out wr (Gr.refl _)) ?_); rintro e w1 ⟨rfl, g1⟩; have GL := g1.alloc (.cells #[.string (bs x)] 9); have HdL := HM.out.1.gr GL; have HwL := HW.out.gr GL; have SL : wa.heap.size ≤ (w1.alloc (.cells #[.string (bs x)] 9)).heap.size := Nat.le_trans HM.out.2.2.2.2 GL.size; have RL : Row (w1.alloc (.cells #[.string (bs x)] 9)) 1 (some ⟨w1.heap.size, 0, none⟩) 1 [strV x] := rowkW (Blk.new w1 9 #[.string (bs x)]))
        | (at_builtin; refine wpList_append_win2 E.str rfl (.tmp 35) (.tmp 37) rfl rfl HdL rfl RL (fun h => by cases h) (fun v hv => by simp only [List.mem_singleton] at hv; subst hv; rfl) hbh hmh SL HwL HAp.out ?_; intro A5 c5 w5 H5 b5 W5 P5; have HH5 := sec (And.intro H5 (And.intro W5 P5)); clear H5 W5 P5; have G5 : Gr w w5 := Gr.low (HM.out.2.2.2.1.trans GL) b5 HWA.out; have S5 : wa.heap.size ≤ w5.heap.size := Nat.le_trans SL b5.size)
        | (go_at_call 59; (with_reducible refine Calls.mono (HD.out _) ?_); rintro e w3 ⟨A3, c3, B3, d3, rfl, r3, g3⟩)
        | (refine wpList_store_blk rfl 91 (.tmp 12) (.tmp 50) rfl (g := w3.heap.size) (cs' := obA o A3 c3 B3 d3) rfl rfl (Blk.new w3 _ _) aggOb rfl (obA_one _ _ _ _ _) ?_; intro w4 h4 hg4; have z34 : Gr w3 w4 := Gr.only ((Gr.refl w3).alloc _) hg4 (Nat.le_refl _); have g54 : Gr w5 w4 := (g6.trans g3).trans z34; have k0 : w4.cell? ⟨w3.heap.size, 0, none⟩ = some (.int .i64 o.kind) := h4.cell 0; have k4 : w4.cell? ⟨w3.heap.size, 4, none⟩ = some (.slice B3 o.pars.length d3) := h4.cell 4)
        | (at_builtin; refine wpList_append_win2 E.str rfl (.tmp 59) (.tmp 61) rfl rfl (HH5.out.2.1.gr g54) rfl (r3.pars.gr z34) r3.pn (fun v hv => by obtain ⟨l, _, rfl⟩ := List.mem_map.1 hv; rfl) hb6 h66 (Nat.le_trans S5 g54.size) (HH5.out.1.gr g54) HH5.out.2.2.symm ?_; intro A7 c7 w7 W7 b7 H7 P7)
        | (refine Calls.mono (HTx.out w5 G5) ?_; rintro e w6 ⟨rfl, g6⟩))
      go_roundg (gk - 1)
      case rel =>
        refine ⟨ys ++ o.pars, S ++ [x], m' + o.pars.length, A7, c7, S.length + 1, A5, c5, rfl, rfl, ?_, ?_, ?_, ?_, sec ⟨?_, ?_, ?_⟩, sec ⟨?_, ?_, ?_, ?_, ?_⟩⟩
        · rw [List.length_append]; simp only [List.length_cons, List.length_nil]; omega
        · rw [List.length_append]; simp only [List.length_cons, List.length_nil]; omega
        · rw [List.length_append]; simp only [List.length_cons, List.length_nil]; omega
        · rw [List.length_append]; rfl
        · intro b' h'; refine HMO.out b' ?_; rw [HNp.out]; exact h'
        · rw [List.length_append, HYL.out]
        · intro y hy
          rcases List.mem_append.1 hy with hy | hy
          · exact HYS.out y hy
          · have := HNX.out.2 y (by rw [HNp.out]; exact hy); omega
        · rw [List.map_append]; exact H7
        · rw [List.map_append]; exact W7
        · exact P7.symm
        · exact Gr.low (G5.trans g54) b7 HWA.out
        · exact Nat.le_trans (Nat.le_trans S5 g54.size) b7.size
      case measure => omega
end Go.Proofs.YtoamnifnfkgbiaaGreatDoor

namespace Go.Proofs.YtoamnifnfkgbiaaGreatDoor
open Go.RowKit
set_option maxRecDepth 100000 in
set_option maxHeartbeats 1000000 in
theorem sameStrings_any (A A' : Option Addr) (n n' c c' : Nat) (xs ys : List (List UInt8)) (w : World) (hx : StrRow w A n xs) (hy : StrRow w A' n' ys) (hn : n ≤ 140737488355328) (hn' : n' ≤ 140737488355328) :
    Calls Tryz.prog 16 #[.slice A n c, .slice A' n' c'] w fun e w' => e = .returned (.bool (decide (xs = ys))) ∧ Gr w w' := by
  have hlx := hx.len
  have hly := hy.len
  subst hlx hly
  by_cases hne : xs.length = ys.length
  · have hb1 : ((xs.length : Int) != (ys.length : Int)) = false := by simp [hne]
    have HN := sec hne
    clear hne
    go_enter Tryz.func16, Tryz.ntmps16
    go_wp2_with fail
    go_loopw [5, 13] (fun _ iv wr => ∃ i : Nat, iv = .int .i64 i ∧ i ≤ xs.length ∧ Sec (xs.take i = ys.take i) ∧ Gr w wr)
      (fun _ iv _ => xs.length - (intOf iv).toNat)
    case atStart => exact ⟨0, rfl, by omega, ⟨by simp⟩, Gr.refl _⟩
    case round =>
      obtain ⟨i, rfl, hi, he, hg⟩ := hrel
      by_cases hlt : i < xs.length
      · have hlty : i < ys.length := by have := HN.out; omega
        obtain ⟨b, off, rfl, hc⟩ := (hx.gr hg).cell hlt
        obtain ⟨b', off', rfl, hc'⟩ := (hy.gr hg).cell hlty
        obtain ⟨x, hxe⟩ : ∃ x, x = xs[i] := ⟨_, rfl⟩
        obtain ⟨y, hye⟩ : ∃ y, y = ys[i] := ⟨_, rfl⟩
        rw [← hxe] at hc
        rw [← hye] at hc'
        have HX := sec hxe
        have HY := sec hye
        clear hxe hye
        have q1 : (i : Int) < (xs.length : Int) := by omega
        have q2 : (i : Int) < (ys.length : Int) := by omega
        by_cases hxy : x = y
        · subst hxy
          go_wp2
          go_quiet (fail)
          go_wp2
          go_roundw
          case rel =>
            refine ⟨i + 1, by go_num, by omega, ⟨?_⟩, hg.drewN _⟩
            rw [List.take_succ_eq_append_getElem hlt, List.take_succ_eq_append_getElem hlty, he.out, ← HX.out, ← HY.out]
          case measure => simp [intOf]; omega
        · have hxy' : (x == y) = false := by simpa using hxy
          have HXY := sec hxy
          clear hxy
          go_wp2
          go_quiet (fail)
          go_wp2
          go_ret
          refine ⟨?_, hg.drewN _⟩
          have : ¬ (xs = ys) := by
            intro e
            apply HXY.out
            rw [HX.out, HY.out]
            simp [e]
          simp [this]
      · go_wp2
        go_ret
        refine ⟨?_, hg⟩
        have : xs = ys := by
          have h1 := he.out
          rw [List.take_of_length_le (by omega), List.take_of_length_le (by have := HN.out; omega)] at h1
          exact h1
        simp [this]
  · have hb1 : ((xs.length : Int) != (ys.length : Int)) = true := by rw [bne_iff_ne]; omega
    have : ¬ (xs = ys) := fun e => hne (by rw [e])
    have HN := sec this
    clear this hne
    go_enter Tryz.func16, Tryz.ntmps16
    go_wp2
    go_ret
    exact ⟨by simp [HN.out], Gr.refl _⟩
end Go.Proofs.YtoamnifnfkgbiaaGreatDoor

namespace Go.Proofs.YtoamnifnfkgbiaaGreatDoor
set_option maxRecDepth 100000
open Go.RowKit Go.ChangeShapes Go.WideShapes
theorem flat_single {α β : Type} (f : α → β) : ∀ xs : List α, xs.flatMap (fun l => [f l]) = xs.map f
  | [] => rfl
  | x :: r => by rw [List.flatMap_cons, flat_single f r]; rfl
theorem open_strs {w : World} {r : Reach} {base : Nat} {H : Type} {enc : TypeId × Value → H} {v : Value} {d : DataW H} {p : List MemPlace}
    (hv : Value.okWide Tryz.prog w r base 31 v) (hd : DataW.Trod enc Tryz.prog w 0 (fun _ => true) true 31 v d p) (hb : Rows.uptoBulk d ≤ 1048576) :
    ∃ A c l, v = .slice A l.length c ∧ StrRow w A l.length l ∧ l.length ≤ 1048576 ∧ (∀ x ∈ l, x.length ≤ 1048576) ∧ l.length ≤ c ∧ c ≤ maxLen ∧ (A = none → c = 0) := by
  obtain ⟨A, c, xs, e, hR, hs⟩ := open_slice_arg Tryz.underlying31 (opens_slice Tryz.underlying31 (by kernel_rfl) (opens_string Tryz.underlying9 (by kernel_rfl) w) (by omega)) hv hd
  obtain ⟨A', c', e', h1, h2, hrow⟩ := sliceR_row (k := 1) (fun l => [strV l]) (fun _ => rfl) (by omega) (fun ci x h => h) hR
  simp only [List.cons.injEq, and_true, Value.slice.injEq, true_and] at e'
  obtain ⟨rfl, rfl⟩ := e'
  obtain ⟨A2, c2, e2, _, h3, _⟩ := hR
  simp only [List.cons.injEq, and_true, Value.slice.injEq, true_and] at e2
  obtain ⟨rfl, rfl⟩ := e2
  have hl := szs_len (fun l : List UInt8 => l.length + 1) (fun x => Nat.succ_le_succ (Nat.zero_le _)) xs
  rw [flat_single] at hrow
  refine ⟨A, c, xs, e, hrow, by omega, fun x hx => ?_, h1, h2, h3.2⟩
  have h5 : x.length + 1 ≤ _ := szs_mem (fun l : List UInt8 => l.length + 1) hx
  omega
end Go.Proofs.YtoamnifnfkgbiaaGreatDoor

namespace Go.Proofs.YtoamnifnfkgbiaaGreatDoor
set_option maxRecDepth 100000
open Go.RowKit
set_option linter.unusedVariables false
theorem StrRow.drewS {w : World} {A : Option Addr} {n : Nat} {ss : List (List UInt8)} (h : StrRow w A n ss) : StrRow w.drew A n ss := Row.gr h (Gr.refl w).drew

set_option maxHeartbeats 16000000 in
theorem storeReaches_walk (A : Option Addr) (cap : Nat) (l : List (List UInt8)) (B : Option Addr) (d : Nat) (ids : List (List UInt8)) (id frm : List UInt8) (W : World)
    (hl : StrRow W A l.length l ∧ l.length ≤ 1048576 ∧ (∀ x ∈ l, x.length ≤ 1048576) ∧ l.length ≤ cap ∧ cap ≤ maxLen ∧ (A = none → cap = 0))
    (hi : StrRow W B ids.length ids ∧ ids.length ≤ 1048576 ∧ (∀ x ∈ ids, x.length ≤ 1048576) ∧ ids.length ≤ d ∧ d ≤ maxLen ∧ (B = none → d = 0))
    (hid : id.length ≤ 1048576) (hfr : frm.length ≤ 1048576) (hT : TabK W) :
    Calls Tryz.prog 4 #[.slice A l.length cap, .slice B ids.length d, .string (bs id), .string (bs frm)] W fun e W' => e = .returned (.bool true) ∧ Gr W W' := by
  obtain ⟨hl1, hl2, hl3, _, _, _⟩ := hl
  obtain ⟨hi1, hi2, hi3, hi4, _, hi5⟩ := hi
  have hiN : B = none → ids.length = 0 ∧ d = 0 := fun e => by have := hi5 e; omega
  obtain ⟨G, hG⟩ : ∃ G, G = tlG l := ⟨_, rfl⟩
  have HGl : Sec (∀ x, (G x).1.length ≤ 1048576) := sec (by rw [hG]; exact tlG_le hl3)
  have eg := enters_own Tryz.func58 (by kernel_rfl) rfl
  have HTe : Sec (∀ w, Gr W w → Calls Tryz.prog 13 #[.slice A l.length cap] w (TellsV w 58 G)) := sec (fun w g => by rw [hG]; exact tells_any l A l.length cap w (hl1.gr g) (by omega) (fun x hx => by have := hl3 x hx; omega))
  have HSt : Sec (∀ w, Gr W w → Calls Tryz.prog 14 #[.slice B ids.length d] w fun e w' => ∃ A' c', e = .returned (.slice A' ids.length c') ∧ (StrRow w' A' ids.length ids ∧ (A' = none → ids.length = 0 ∧ c' = 0)) ∧ Gr w w') := sec (fun w g => by
    refine (strings_any ids ids.length B d w (by omega) (hi1.gr g) hiN).mono ?_
    rintro e w' ⟨A', c', rfl, ho, g'⟩
    exact ⟨A', c', rfl, ⟨Row.own ho, own_nilK ho⟩, g'⟩)
  have HRe : Sec (∀ w caps A' c', Tells 58 caps G w → (StrRow w A' ids.length ids ∧ (A' = none → ids.length = 0 ∧ c' = 0)) → Calls Tryz.prog 12 #[.func (.func 58) #[] caps, .slice A' ids.length c'] w (RcPost w G ids)) := sec (fun w caps A' c' h h' => reach_any _ caps G eg ids A' ids.length c' w h HGl.out h'.1 (by omega) h'.2 (fun x hx => by have := hi3 x hx; omega))
  have HCl : Sec (∀ w caps, Gr W w → Tells 58 caps G w → Calls Tryz.prog 15 #[.func (.func 58) #[] caps, .slice B ids.length d] w fun e w' => ∃ L A n c er, RcSpec G ids (L, er) ∧ e = .returned (.tuple #[.slice A n c, .int .i64 er]) ∧ StrRow w' A n L ∧ L.length ≤ 400 ∧ Gr w w') := sec (fun w caps g h => rclosed_any _ caps G eg ids B ids.length d w h HGl.out (hi1.gr g) (by omega) (fun x hx => by have := hi3 x hx; omega))
  have HDe : Sec (∀ w caps, Tells 58 caps G w → Calls Tryz.prog 17 #[.func (.func 58) #[] caps, .string (bs id), .string (bs frm)] w (DsPost w G id frm)) := sec (fun w caps h => desc_any _ caps G eg id frm w h HGl.out (by omega))
  have HOn : Sec (∀ w caps, Tells 58 caps G w → Calls Tryz.prog 18 #[.func (.func 58) #[] caps, .string (bs id), .string (bs frm)] w (DsPost w G id frm)) := sec (fun w caps h => onward_any _ caps G eg id frm w h HGl.out (by omega))
  have HSo : Sec (∀ w, Gr W w → Calls Tryz.prog 19 #[] w fun e w' => e = .returned (.bool true) ∧ Gr w w') := sec (fun w g => stores_any w (hT.gr g))
  have HSS : Sec (∀ w (L : List (List UInt8)) A1 n1 c1 A2 n2 c2, L.length ≤ 400 → StrRow w A1 n1 L → StrRow w A2 n2 L → Calls Tryz.prog 16 #[.slice A1 n1 c1, .slice A2 n2 c2] w fun e w' => e = .returned (.bool true) ∧ Gr w w') := sec (fun w L A1 n1 c1 A2 n2 c2 hl h1 h2 => by
    have := sameStrings_any A1 A2 n1 n2 c1 c2 L L w h1 h2 (by have := h1.len; omega) (by have := h2.len; omega)
    simpa using this)
  unfold TellsV at HTe
  unfold RcPost at HRe
  unfold DsPost at HDe HOn
  clear hl1 hl2 hl3 hi1 hi2 hi3 hi4 hi5 hiN hT hid hfr hG eg
  go_enter Tryz.func4, Tryz.ntmps4
  go_wp2_with (first
    | (go_at_call 13; (with_reducible refine Calls.mono (HTe.out W (Gr.refl _)) ?_); rintro e w1 ⟨caps1, rfl, t1, g1⟩)
    | (go_at_call 14; (with_reducible refine Calls.mono (HSt.out w1 g1) ?_); rintro e w2 ⟨A2, c2, rfl, r2, g2'⟩; have g2 := g1.trans g2'; have t2 := t1.gr g2')
    | (go_at_call 12; (with_reducible refine Calls.mono (HRe.out w2 caps1 A2 c2 t2 r2) ?_); rintro e w3 ⟨L3, A3, n3, c3, er3, sp3, rfl, r3, _, _, l3, g3'⟩; have g3 := g2.trans g3')
    | (go_at_call 13; (with_reducible refine Calls.mono (HTe.out w3 g3) ?_); rintro e w4 ⟨caps4, rfl, t4, g4'⟩; have g4 := g3.trans g4')
    | (go_at_call 15; (with_reducible refine Calls.mono (HCl.out w4 caps4 g4 t4) ?_); rintro e w5 ⟨L5, A5, n5, c5, er5, sp5, rfl, r5, l5, g5'⟩; obtain ⟨rfl, rfl⟩ : L3 = L5 ∧ er3 = er5 := (by have hu := rcSpec_uniq sp3 sp5; injection hu with a b; exact ⟨a, b⟩); have g5 := g4.trans g5'; have r35 := (r3.gr g4').gr g5'; have hqe : (er3 == er3) = true := beq_self_eq_true _)
    | (go_at_call 16; (with_reducible refine Calls.mono (HSS.out w5 L3 A3 n3 c3 A5 n5 c5 l3 r35 r5) ?_); rintro e w6 ⟨rfl, g6'⟩; have g6 : Gr W w6 := Gr.trans g5 g6')
    | (go_at_call 13; (with_reducible refine Calls.mono (HTe.out w6 g6) ?_); rintro e w7 ⟨caps7, rfl, t7, g7'⟩; have g7 : Gr W w7 := Gr.trans g6 g7')
    | (go_at_call 17; (with_reducible refine Calls.mono (HDe.out w7 caps7 t7) ?_); rintro e w8 ⟨b8, s8, rfl, g8'⟩; have g8 : Gr W w8 := Gr.trans g7 g8')
    | (go_at_call 13; (with_reducible refine Calls.mono (HTe.out w8 g8) ?_); rintro e w9 ⟨caps9, rfl, t9, g9'⟩; have g9 : Gr W w9 := Gr.trans g8 g9')
    | (go_at_call 18; (with_reducible refine Calls.mono (HOn.out w9 caps9 t9) ?_); rintro e w10 ⟨b10, s10, rfl, g10'⟩; obtain rfl := ds_uniq s8 s10; have g10 : Gr W w10 := Gr.trans g9 g10'; have hqb : (b8 == b8) = true := beq_self_eq_true _)
    | (go_at_call 19; (with_reducible refine Calls.mono (HSo.out w10 g10) ?_); rintro e w11 ⟨rfl, g11'⟩; have g11 : Gr W w11 := Gr.trans g10 g11'))
  go_ret
  exact ⟨rfl, g11⟩
end Go.Proofs.YtoamnifnfkgbiaaGreatDoor

namespace Go.Proofs.YtoamnifnfkgbiaaGreatDoor
open Go.RowKit Go.ChangeShapes Go.WideShapes Go.ChangeAt
set_option linter.unusedVariables false
theorem gTab : Tryz.prog.globalNamed "cartulary/sum.table" = some 0 := by kernel_rfl
theorem gTabType : (Tryz.prog.globals[0]?).map (·.type) = some 213 := by kernel_rfl
theorem cellsTab : Tryz.prog.cellsOf 213 = 64 := by kernel_rfl
theorem cellsU32 : Tryz.prog.cellsOf 134 = 1 := by kernel_rfl
def kInts : List Int := kTab.map fun x => (x.toNat : Int)
theorem table_of {W : World} {rest : List (String × DataW Unit)} (h : laidMet Tryz.prog (("cartulary/sum.table", Rows.laid_cartulary_sum_table) :: rest) W) : TabK W := by
  have ht : Lib.TabIs Tryz.prog W "cartulary/sum.table" .u32 kInts :=
    Lib.tabIs_of_head (rest := rest) gTab gTabType Tryz.underlying213 Tryz.underlying134 cellsU32 cellsTab h
  refine ⟨fun i hi => ?_⟩
  have hl : i < kInts.length := by unfold kInts; rw [List.length_map, kTab_len]; exact hi
  have := ht.cell gTab i hl
  rw [this]
  have : i < kTab.length := by rw [kTab_len]; exact hi
  simp [kInts, kAt, u32V, this]

/-- the numbers of a listed variable, flat -/
def flatW : Nat → DataW Unit → List Value
  | 0, _ => []
  | _ + 1, .lit (.int k z) => [.int k z]
  | n + 1, .agg xs => xs.flatMap (flatW n)
  | _ + 1, _ => []
noncomputable def laidHeap (l : List (String × DataW Unit)) (h : Array Obj) : Array Obj :=
  l.foldl (fun h x => match Tryz.prog.globalNamed x.1 with
    | some g => h.modify g fun
      | .cells _ t frozen => .cells (flatW 8 x.2).toArray t frozen
      | o => o
    | none => h) h
noncomputable def laidWorld (l : List (String × DataW Unit)) (os : Os) : World :=
  { World.holding Tryz.prog os ⟨#[], #[], []⟩ with heap := laidHeap l (World.holding Tryz.prog os ⟨#[], #[], []⟩).heap }
end Go.Proofs.YtoamnifnfkgbiaaGreatDoor
