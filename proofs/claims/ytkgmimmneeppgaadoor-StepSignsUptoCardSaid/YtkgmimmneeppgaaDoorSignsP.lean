/-
  SignsP: contracts and plain laws joined (4 texts). No conditions but those that each states.
-/
import Derived.Test.YtkgmimmneeppgaaDoorStepBase
import Derived.Deep.RegionHeld3
import Derived.Deep.CutBlock
namespace Go.Proofs.YtkgmimmneeppgaaDoor
set_option maxRecDepth 100000
open Go.RowKit
set_option linter.unusedVariables false
theorem stF_pair : ∀ (ws : List Int) (ss : List (List UInt8)) (last : Int), ws.length = ss.length → stF last ws ss = 0 → List.Pairwise (· < ·) ws
  | [], _, _, _, _ => List.Pairwise.nil
  | w :: ws, [], _, h, _ => by simp at h
  | w :: ws, x :: ss, last, h, h0 => by
    rw [stF_cons] at h0
    split at h0
    · cases h0
    · split at h0
      · have hl : ws.length = ss.length := by simpa using h
        exact List.Pairwise.cons (fun y hy => ((stF_zero ws ss w hl h0).2 y hy).1) (stF_pair ws ss w hl h0)
      · cases h0
/-- how many stand -/
def mm (who : List Int) (x w : Int) (i : Nat) : Nat :=
  who.countP (fun y => decide (y < w)) + (who.take i).countP (fun y => decide (y = w)) + (if x < w then 1 else 0)
theorem countP_lt_succ (w : Int) : ∀ l : List Int, l.countP (fun y => decide (y < w)) + l.countP (fun y => decide (y = w)) = l.countP (fun y => decide (y < w + 1))
  | [] => rfl
  | a :: l => by
    have ih := countP_lt_succ w l
    simp only [List.countP_cons, decide_eq_true_eq]
    by_cases h1 : a < w
    · rw [if_pos h1, if_neg (by omega), if_pos (by omega)]; omega
    · by_cases h2 : a = w
      · rw [if_neg h1, if_pos h2, if_pos (by omega)]; omega
      · rw [if_neg h1, if_neg h2, if_neg (by omega)]; omega
theorem countP_take_succ (p : Int → Bool) (l : List Int) (i : Nat) (h : i < l.length) : (l.take (i + 1)).countP p = (l.take i).countP p + (if p l[i] = true then 1 else 0) := by
  rw [List.take_succ_eq_append_getElem h, List.countP_append, List.countP_singleton]
theorem mm_zero {who : List Int} {x : Int} (h : ∀ y ∈ who, -1 < y ∧ y ≤ 7) (hx : 0 ≤ x) : mm who x 0 0 = 0 := by
  unfold mm
  have h1 : who.countP (fun y => decide (y < 0)) = 0 := List.countP_eq_zero.2 fun y hy => by have := (h y hy).1; simp; omega
  rw [h1, if_neg (by omega)]
  rfl
theorem mm_miss {who : List Int} {x w : Int} {i : Nat} (h : i < who.length) (hne : ¬ who[i] = w) : mm who x w (i + 1) = mm who x w i := by
  unfold mm
  rw [countP_take_succ _ _ _ h, decide_eq_false hne]
  simp
theorem mm_hit {who : List Int} {x w : Int} {i : Nat} (h : i < who.length) (he : who[i] = w) : mm who x w (i + 1) = mm who x w i + 1 := by
  unfold mm
  rw [countP_take_succ _ _ _ h, decide_eq_true he]
  simp only [if_true]
  omega
theorem mm_next {who : List Int} {x w : Int} (hne : ¬ w = x) : mm who x w who.length = mm who x (w + 1) 0 := by
  unfold mm
  rw [List.take_length, ← countP_lt_succ w who, List.take_zero, List.countP_nil]
  by_cases h : x < w
  · rw [if_pos h, if_pos (by omega)]
  · rw [if_neg h, if_neg (by omega)]
theorem mm_nextx {who : List Int} {x : Int} (hn : x ∉ who) : mm who x x who.length + 1 = mm who x (x + 1) 0 := by
  unfold mm
  rw [List.take_length, ← countP_lt_succ x who, List.take_zero, List.countP_nil]
  have h1 : who.countP (fun y => decide (y = x)) = 0 := List.countP_eq_zero.2 fun y hy => by
    have : ¬ y = x := fun e => hn (e ▸ hy)
    simpa using this
  rw [h1, if_neg (by omega), if_pos (by omega)]
theorem mm_end {who : List Int} {x : Int} (h : ∀ y ∈ who, -1 < y ∧ y ≤ 7) (hx : x ≤ 7) : mm who x 8 0 = who.length + 1 := by
  unfold mm
  have h1 : who.countP (fun y => decide (y < 8)) = who.length := List.countP_eq_length.2 fun y hy => by have := (h y hy).2; simp; omega
  rw [h1, if_pos (by omega)]
  rfl
/-- of a list that rises: so many are smaller than x as stand before it -/
theorem kx_count (x : Int) : ∀ who : List Int, List.Pairwise (· < ·) who → kx who x = who.countP (fun y => decide (y < x))
  | [], _ => rfl
  | a :: l, h => by
    obtain ⟨h1, h2⟩ := List.pairwise_cons.1 h
    have ih := kx_count x l h2
    unfold kx at ih ⊢
    rw [List.takeWhile_cons, List.countP_cons]
    by_cases ha : a < x
    · rw [if_pos (by simpa using ha), if_pos (by simpa using ha), List.length_cons, ih]
    · have h0 : l.countP (fun y => decide (y < x)) = 0 := List.countP_eq_zero.2 fun y hy => by have := h1 y hy; simp; omega
      rw [if_neg (by simpa using ha), if_neg (by simpa using ha), h0]
      rfl
theorem count_at : ∀ (who : List Int) (i : Nat) (h : i < who.length), List.Pairwise (· < ·) who → who.countP (fun y => decide (y < who[i])) = i
  | [], i, h, _ => by simp at h
  | a :: l, 0, h, hp => by
    obtain ⟨h1, h2⟩ := List.pairwise_cons.1 hp
    refine List.countP_eq_zero.2 fun y hy => ?_
    rcases List.mem_cons.1 hy with rfl | hy
    · simp
    · have := h1 y hy
      simp
      omega
  | a :: l, i + 1, h, hp => by
    obtain ⟨h1, h2⟩ := List.pairwise_cons.1 hp
    have hi : i < l.length := by simpa using h
    have ih := count_at l i hi h2
    have ha : a < l[i] := h1 _ (List.getElem_mem hi)
    simp only [List.getElem_cons_succ]
    rw [List.countP_cons, ih, if_pos (by simpa using ha)]
theorem take_none (who : List Int) (i : Nat) (h : i < who.length) (hp : List.Pairwise (· < ·) who) : (who.take i).countP (fun y => decide (y = who[i])) = 0 := by
  refine List.countP_eq_zero.2 fun y hy => ?_
  obtain ⟨j, hj, rfl⟩ := List.getElem_of_mem hy
  have hj' : j < i := by rw [List.length_take] at hj; omega
  rw [List.getElem_take]
  have := List.pairwise_iff_getElem.1 hp j i (by omega) h hj'
  simp
  omega
theorem mm_at {who : List Int} {x : Int} {i : Nat} (hp : List.Pairwise (· < ·) who) (h : i < who.length) : mm who x who[i] i = i + (if x < who[i] then 1 else 0) := by
  unfold mm
  rw [count_at who i h hp, take_none who i h hp]
  rfl
theorem insL_lt {α : Type} {k i : Nat} {x : α} {l : List α} (hk : k ≤ l.length) (h : i < k) : (insL k x l)[i]? = l[i]? := by
  unfold insL
  rw [List.append_assoc, List.getElem?_append_left (by rw [List.length_take]; omega), List.getElem?_take, if_pos h]
theorem insL_eq {α : Type} {k : Nat} {x : α} {l : List α} (hk : k ≤ l.length) : (insL k x l)[k]? = some x := by
  unfold insL
  rw [List.append_assoc, List.getElem?_append_right (by rw [List.length_take]; omega), List.length_take, Nat.min_eq_left hk, Nat.sub_self]
  rfl
theorem insL_gt {α : Type} {k i : Nat} {x : α} {l : List α} (hk : k ≤ l.length) (h : k ≤ i) : (insL k x l)[i + 1]? = l[i]? := by
  unfold insL
  rw [List.append_assoc, List.getElem?_append_right (by rw [List.length_take]; omega), List.length_take, Nat.min_eq_left hk, show i + 1 - k = (i - k) + 1 by omega]
  simp only [List.singleton_append, List.getElem?_cons_succ, List.getElem?_drop]
  rw [show k + (i - k) = i by omega]
/-- one of the old ones comes to its place -/
theorem ins_hit {α : Type} {who : List Int} {x : Int} {z : α} {l : List α} {i : Nat} (hp : List.Pairwise (· < ·) who) (h : i < who.length) (hl : l.length = who.length) (hx : ¬ who[i] = x) :
    (insL (kx who x) z l)[mm who x who[i] i]? = l[i]? := by
  have hk : kx who x ≤ l.length := by rw [hl]; exact kx_le who x
  rw [mm_at hp h]
  have hc := kx_count x who hp
  have hi := count_at who i h hp
  by_cases hlt : x < who[i]
  · rw [if_pos hlt]
    refine insL_gt hk ?_
    rw [hc, ← hi]
    exact List.countP_mono_left fun y _ hy => by simp at hy ⊢; omega
  · rw [if_neg hlt]
    refine insL_lt hk ?_
    have hw : who[i] < x := by omega
    rw [hc]
    have h1 : who.countP (fun y => decide (y < who[i] + 1)) ≤ who.countP (fun y => decide (y < x)) := List.countP_mono_left fun y _ hy => by simp at hy ⊢; omega
    have h2 := countP_lt_succ who[i] who
    have h3 : 0 < who.countP (fun y => decide (y = who[i])) := List.countP_pos_iff.2 ⟨who[i], List.getElem_mem h, by simp⟩
    omega
/-- the new one comes to its place -/
theorem ins_new {α : Type} {who : List Int} {x : Int} {z : α} {l : List α} (hp : List.Pairwise (· < ·) who) (hl : l.length = who.length) (hn : x ∉ who) :
    (insL (kx who x) z l)[mm who x x who.length]? = some z := by
  have hk : kx who x ≤ l.length := by rw [hl]; exact kx_le who x
  have h1 : mm who x x who.length = kx who x := by
    have := mm_nextx hn
    unfold mm at this ⊢
    rw [kx_count x who hp]
    rw [List.take_length, if_neg (by omega)]
    have h2 : who.countP (fun y => decide (y = x)) = 0 := List.countP_eq_zero.2 fun y hy => by
      have : ¬ y = x := fun e => hn (e ▸ hy)
      simpa using this
    omega
  rw [h1]
  exact insL_eq hk
/-- is x there already: at the place where it would come to stand -/
theorem kx_mem {who : List Int} {x : Int} (hp : List.Pairwise (· < ·) who) : who[kx who x]? = some x ↔ x ∈ who := by
  constructor
  · intro h; exact List.mem_of_getElem? h
  · intro h
    obtain ⟨i, hi, rfl⟩ := List.getElem_of_mem h
    rw [kx_count _ who hp, count_at who i hi hp]
    exact List.getElem?_eq_getElem hi
theorem take_more {α : Type} {l : List α} {m : Nat} {z : α} (h : l[m]? = some z) : l.take m ++ [z] = l.take (m + 1) := by
  obtain ⟨hm, he⟩ := List.getElem?_eq_some_iff.1 h
  rw [List.take_succ_eq_append_getElem hm, he]
/-- where the two loops stand -/
structure SgW (who : List Int) (x : Int) (seals : List (List UInt8)) (SV : List UInt8) (w : Int) (i : Nat) (F : List Int) (G : List (List UInt8)) : Prop where
  lenF : F.length = mm who x w i
  fit : x ∉ who → F = (insL (kx who x) x who).take (mm who x w i) ∧ G = (insL (kx who x) SV seals).take (mm who x w i)
  past : x < w → x ∉ who
  here : w = x → ∀ j (h : j < who.length), j < i → ¬ who[j] = x
section
variable {who : List Int} {x : Int} {seals : List (List UInt8)} {SV : List UInt8} {w : Int} {i : Nat} {F : List Int} {G : List (List UInt8)}
theorem SgW.start (h : ∀ y ∈ who, -1 < y ∧ y ≤ 7) (hx : 0 ≤ x) : SgW who x seals SV 0 0 [] [] := by
  have h0 := mm_zero h hx
  exact ⟨by rw [h0]; rfl, fun _ => by rw [h0]; exact ⟨rfl, rfl⟩, fun h => by omega, fun _ j h h' => absurd h' (by omega)⟩
theorem SgW.miss (s : SgW who x seals SV w i F G) (h : i < who.length) (hne : ¬ who[i] = w) : SgW who x seals SV w (i + 1) F G := by
  have h0 := mm_miss (x := x) h hne
  refine ⟨by rw [h0]; exact s.lenF, fun hn => by rw [h0]; exact s.fit hn, s.past, fun e j hj hji => ?_⟩
  by_cases e' : j = i
  · subst e'; rw [← e]; exact hne
  · exact s.here e j hj (by omega)
theorem SgW.hit (s : SgW who x seals SV w i F G) (hp : List.Pairwise (· < ·) who) (hl : seals.length = who.length) (h : i < who.length) (h' : i < seals.length) (he : who[i] = w) (hx : ¬ w = x) : SgW who x seals SV w (i + 1) (F ++ [w]) (G ++ [seals[i]]) := by
  have h0 := mm_hit (x := x) h he
  have hx' : ¬ who[i] = x := by rw [he]; exact hx
  have e1 := ins_hit (z := x) (l := who) hp h rfl hx'
  have e2 := ins_hit (z := SV) (l := seals) hp h hl hx'
  rw [he] at e1 e2
  refine ⟨by rw [h0, List.length_append, s.lenF]; rfl, fun hn => ?_, s.past, fun e => absurd e hx⟩
  obtain ⟨f1, f2⟩ := s.fit hn
  rw [h0]
  refine ⟨?_, ?_⟩
  · rw [f1]; exact take_more (by rw [e1, List.getElem?_eq_getElem h, he])
  · rw [f2]; exact take_more (by rw [e2, List.getElem?_eq_getElem h'])
theorem SgW.next (s : SgW who x seals SV w who.length F G) (hx : ¬ w = x) : SgW who x seals SV (w + 1) 0 F G := by
  have h0 := mm_next (who := who) hx
  exact ⟨by rw [← h0]; exact s.lenF, fun hn => by rw [← h0]; exact s.fit hn, fun h => s.past (by omega), fun _ j h h' => absurd h' (by omega)⟩
theorem SgW.none (s : SgW who x seals SV x who.length F G) : x ∉ who := by
  intro h
  obtain ⟨j, hj, e⟩ := List.getElem_of_mem h
  exact s.here rfl j hj hj e
theorem SgW.new (s : SgW who x seals SV x who.length F G) (hp : List.Pairwise (· < ·) who) (hl : seals.length = who.length) : SgW who x seals SV (x + 1) 0 (F ++ [x]) (G ++ [SV]) := by
  have hn := s.none
  have h0 := mm_nextx hn
  obtain ⟨f1, f2⟩ := s.fit hn
  refine ⟨by rw [← h0, List.length_append, s.lenF]; rfl, fun _ => ?_, fun _ => hn, fun _ j h h' => absurd h' (by omega)⟩
  rw [← h0]
  refine ⟨?_, ?_⟩
  · rw [f1]; exact take_more (ins_new (z := x) (l := who) hp rfl hn)
  · rw [f2]; exact take_more (ins_new (z := SV) (l := seals) hp hl hn)
theorem SgW.done (s : SgW who x seals SV 8 0 F G) (h : ∀ y ∈ who, -1 < y ∧ y ≤ 7) (hx : x ≤ 7) (hl : seals.length = who.length) : ¬ who[kx who x]? = some x ∧ F = insL (kx who x) x who ∧ G = insL (kx who x) SV seals := by
  have hn := s.past (by omega)
  have h0 := mm_end h hx
  obtain ⟨f1, f2⟩ := s.fit hn
  rw [h0] at f1 f2
  refine ⟨fun e => hn (List.mem_of_getElem? e), ?_, ?_⟩
  · rw [f1, List.take_of_length_le (by rw [insL_len]; omega)]
  · rw [f2, List.take_of_length_le (by rw [insL_len]; omega)]
theorem SgW.err (hp : List.Pairwise (· < ·) who) (h : i < who.length) (he : who[i] = x) : who[kx who x]? = some x := (kx_mem hp).2 (by rw [← he]; exact List.getElem_mem h)
end
end Go.Proofs.YtkgmimmneeppgaaDoor

namespace Go.Proofs.YtkgmimmneeppgaaDoor
set_option maxRecDepth 100000
open Go.RowKit
set_option linter.unusedVariables false
/-- the block q, the rows X and Y; the block need not yet name the rows -/
structure Md (w0 : World) (q K : Nat) (cs : Array Value) (X Y : Value) (N M : Nat) (F : List Int) (G : List (List UInt8)) (w : World) : Prop where
  blk : Blk w q 46 cs
  own1 : w.ownsRow K 3 1 X N (F.map iV)
  own2 : w.ownsRow K 9 1 Y M (G.map strV)
  gr : Gr w0 w
  lt : q < K
  le : w0.heap.size ≤ q
section
variable {w0 : World} {q K : Nat} {cs : Array Value} {X Y : Value} {N M : Nat} {F : List Int} {G : List (List UInt8)} {w w' : World}
theorem Md.gr' (h : Md w0 q K cs X Y N M F G w) (g : Gr w w') : Md w0 q K cs X Y N M F G w' := ⟨h.blk.gr g, own_gr h.own1 g, own_gr h.own2 g, h.gr.trans g, h.lt, h.le⟩
theorem Md.al (h : Md w0 q K cs X Y N M F G w) (o : Obj) : Md w0 q K cs X Y N M F G (w.alloc o) := h.gr' ((Gr.refl _).alloc _)
theorem Md.drew (h : Md w0 q K cs X Y N M F G w) : Md w0 q K cs X Y N M F G w.drew := h.gr' (Gr.refl _).drew
/-- another block, of neither kind, has turned -/
theorem Md.only {g : Nat} {T : TypeId} {cs' : Array Value} (h : Md w0 q K cs X Y N M F G w) (hb : Blk w g T cs') (h1 : 3 ≠ T) (h2 : 9 ≠ T) (hq : q ≠ g) (hg : w0.heap.size ≤ g) (k : w.grownBy w' (some g)) : Md w0 q K cs X Y N M F G w' :=
  ⟨h.blk.only k hq, own_only h.own1 hb h1 k, own_only h.own2 hb h2 k, h.gr.only k hg, h.lt, h.le⟩
theorem Md.app1 {X' : Value} {N' : Nat} {F' : List Int} (h : Md w0 q K cs X Y N M F G w) (ho : w'.ownsRow K 3 1 X' N' (F'.map iV)) (k : w.grownBy w' X.ownBlock) : Md w0 q K cs X' Y N' M F' G w' :=
  ⟨blk_own h.blk h.own1 (by decide) k, ho, own_other h.own2 h.own1 (by decide) k, h.gr.grown k (fun i hi => by have := (h.own1.lt i hi).1; have := h.lt; have := h.le; omega), h.lt, h.le⟩
theorem Md.app2 {Y' : Value} {M' : Nat} {G' : List (List UInt8)} (h : Md w0 q K cs X Y N M F G w) (ho : w'.ownsRow K 9 1 Y' M' (G'.map strV)) (k : w.grownBy w' Y.ownBlock) : Md w0 q K cs X Y' N M' F G' w' :=
  ⟨blk_own h.blk h.own2 (by decide) k, own_other h.own1 h.own2 (by decide) k, ho, h.gr.grown k (fun i hi => by have := (h.own2.lt i hi).1; have := h.lt; have := h.le; omega), h.lt, h.le⟩
theorem Md.st (h : Md w0 q K cs X Y N M F G w) (i : Nat) (u : Value) : Md w0 q K (cs.setIfInBounds i u) X Y N M F G (w.setCell ⟨q, i, none⟩ u) :=
  ⟨h.blk.set_ i u, ownsRow_setCell_other h.own1 (a := ⟨q, i, none⟩) (fun e => by have := (h.own1.lt q e).1; have := h.lt; omega) u, ownsRow_setCell_other h.own2 (a := ⟨q, i, none⟩) (fun e => by have := (h.own2.lt q e).1; have := h.lt; omega) u, h.gr.setCell (p := ⟨q, i, none⟩) h.le u, h.lt, h.le⟩
theorem BlkAt {w : World} {g : Nat} {t : TypeId} {cs : Array Value} (h : g = w.heap.size) : Blk (w.alloc (.cells cs t)) g t cs := by subst h; exact Blk.new w t cs
theorem Md.size (h : Md w0 q K cs X Y N M F G w) (hK : K ≤ q + 1) : K ≤ w.heap.size := by have := h.blk.lt; omega
/-- a piece of the other kind stays where it is -/
theorem Md.keep1 {g : Nat} {T : TypeId} {cs' : Array Value} (h : Md w0 q K cs X Y N M F G w) (hb : Blk w g T cs') (h1 : 3 ≠ T) (k : w.grownBy w' X.ownBlock) : Blk w' g T cs' := blk_own hb h.own1 h1 k
theorem Md.keep2 {g : Nat} {T : TypeId} {cs' : Array Value} (h : Md w0 q K cs X Y N M F G w) (hb : Blk w g T cs') (h1 : 9 ≠ T) (k : w.grownBy w' Y.ownBlock) : Blk w' g T cs' := blk_own hb h.own2 h1 k
end
/-- a step's block that names its two rows -/
def TwA (r o n : List UInt8) (A : Option Addr) (c N : Nat) (B : Option Addr) (d M : Nat) : Array Value := #[.string (bs r), .string (bs o), .string (bs n), .slice A N c, .slice B M d]
/-- both rows have N pieces -/
def Tw (w0 : World) (q K : Nat) (r o n : List UInt8) (N : Nat) (F : List Int) (G : List (List UInt8)) (w : World) : Prop :=
  ∃ A c B d, Md w0 q K (TwA r o n A c N B d N) (.slice A N c) (.slice B N d) N N F G w
theorem Tw.new {w0 w : World} {q K : Nat} {r o n : List UInt8} (h : Blk w q 46 (TwA r o n none 0 0 none 0 0)) (g : Gr w0 w) (lt : q < K) (le : w0.heap.size ≤ q) : Tw w0 q K r o n 0 [] [] w :=
  ⟨none, 0, none, 0, h, World.ownsRow_nil _ _ _ _, World.ownsRow_nil _ _ _ _, g, lt, le⟩
theorem Tw.only {w0 w w' : World} {q K N g : Nat} {r o n : List UInt8} {F : List Int} {G : List (List UInt8)} {T : TypeId} {cs' : Array Value} (h : Tw w0 q K r o n N F G w) (hb : Blk w g T cs') (h1 : 3 ≠ T) (h2 : 9 ≠ T) (hq : q ≠ g) (hg : w0.heap.size ≤ g) (k : w.grownBy w' (some g)) : Tw w0 q K r o n N F G w' := by
  obtain ⟨A, c, B, d, h⟩ := h
  exact ⟨A, c, B, d, h.only hb h1 h2 hq hg k⟩
theorem Tw.gr' {w0 w w' : World} {q K N : Nat} {r o n : List UInt8} {F : List Int} {G : List (List UInt8)} (h : Tw w0 q K r o n N F G w) (g : Gr w w') : Tw w0 q K r o n N F G w' := by
  obtain ⟨A, c, B, d, h⟩ := h
  exact ⟨A, c, B, d, h.gr' g⟩
theorem Md.lenF {w0 : World} {q K : Nat} {cs : Array Value} {X Y : Value} {N M : Nat} {F : List Int} {G : List (List UInt8)} {w : World} (h : Md w0 q K cs X Y N M F G w) : F.length = N := by
  have := h.own1.1
  simpa using this
theorem Md.lenG {w0 : World} {q K : Nat} {cs : Array Value} {X Y : Value} {N M : Nat} {F : List Int} {G : List (List UInt8)} {w : World} (h : Md w0 q K cs X Y N M F G w) : G.length = M := by
  have := h.own2.1
  simpa using this
/-- what stands in the block, and the step as a value -/
theorem str_own {w : World} {K K' N : Nat} {r o n : List UInt8} {F : List Int} {G : List (List UInt8)} {A B : Option Addr} {c d : Nat} (h : w.ownsRow K 3 1 (.slice A N c) N (F.map iV)) (h' : w.ownsRow K' 9 1 (.slice B N d) N (G.map strV)) : StR w ⟨r, o, n, F, G⟩ A c B d ∧ TwA r o n A c N B d N = stepA ⟨r, o, n, F, G⟩ A c B d := by
  have h1 : F.length = N := by have := h.1; simpa using this
  have h2 : G.length = N := by have := h'.1; simpa using this
  subst h1
  unfold TwA stepA
  simp only
  rw [h2]
  exact ⟨⟨Row.own h, by simp only; rw [h2]; exact Row.own h', own_nil h, fun e => by simp only; rw [h2]; exact own_nil h' e, own_cap h, by simp only; rw [h2]; exact own_cap h'⟩, rfl⟩
theorem Md.str {w0 w : World} {q K N : Nat} {r o n : List UInt8} {F : List Int} {G : List (List UInt8)} {A B : Option Addr} {c d : Nat} (h : Md w0 q K (TwA r o n A c N B d N) (.slice A N c) (.slice B N d) N N F G w) : StR w ⟨r, o, n, F, G⟩ A c B d ∧ TwA r o n A c N B d N = stepA ⟨r, o, n, F, G⟩ A c B d := str_own h.own1 h.own2
theorem twA_one (r o n : List UInt8) (A : Option Addr) (c N : Nat) (B : Option Addr) (d M : Nat) : (TwA r o n A c N B d M).all (·.oneCell') = true := by simp [TwA, Value.oneCell']
theorem iV_add (F : List Int) (x : Int) : F.map iV ++ [Value.int .i64 x] = (F ++ [x]).map iV := by simp [iV]
theorem sV_add (G : List (List UInt8)) (x : List UInt8) : G.map strV ++ [Value.string (bs x)] = (G ++ [x]).map strV := by simp [strV]
end Go.Proofs.YtkgmimmneeppgaaDoor

namespace Go.Proofs.YtkgmimmneeppgaaDoor
open Go
set_option linter.unusedVariables false
section
variable {P : Program} {ops : Array Oper} {Q : Exit → Act → World → Prop} {md : Region.Mode} {S1 S2 : World → Prop} {T : List Nat}

/-- none of T has come up -/
def noneOf (T : List Nat) (listed : Array Bool) : Prop := ∀ t ∈ T, listed.getD t true = false
/-- whatever order is picked from here on: S1 holds behind every operation, S2 as long as none of T has come up -/
def anyT (P : Program) (md : Region.Mode) (ops : Array Oper) (Q : Exit → Act → World → Prop) (S1 S2 : World → Prop) (T : List Nat) : Nat → Array Bool → Act → World → Prop
  | 0, listed, a, w => Region.ready md ops listed = [] ∧ Q .normal a w
  | fuel + 1, listed, a, w =>
    (Region.ready md ops listed = [] → Q .normal a w) ∧
    ∀ i ∈ Region.ready md ops listed, wpOp P ops Q i (fun a' w' => (S1 w' ∧ (noneOf T (listed.setIfInBounds i true) → S2 w')) ∧ anyT P md ops Q S1 S2 T fuel (listed.setIfInBounds i true) a' w') a w

theorem any_of_T : ∀ (fuel : Nat) (listed : Array Bool) (a : Act) (w : World), anyT P md ops Q S1 S2 T fuel listed a w → wpAny P md ops Q fuel listed a w
  | 0, _, _, _, h => h
  | fuel + 1, _, _, _, h => ⟨h.1, fun i hi => wpOp_mono (fun a' w' h' => any_of_T fuel _ a' w' h'.2) (h.2 i hi)⟩

theorem noneOf_set {listed : Array Bool} {i : Nat} (hi : i ∉ T) : noneOf T (listed.setIfInBounds i true) ↔ noneOf T listed := by
  have e : ∀ t ∈ T, (listed.setIfInBounds i true).getD t true = listed.getD t true := fun t ht => getD_set_ne true (fun e => hi (e ▸ ht))
  exact ⟨fun h t ht => (e t ht).symm.trans (h t ht), fun h t ht => (e t ht).trans (h t ht)⟩

/-- an operation may be taken first, if it yields its value in every world that meets S (S holds behind whatever may come up before it: hS) -/
theorem anyT_first {S : World → Prop} {i : Nat} {oi : Oper} {v : Value} (hi : ops[i]? = some oi) (hsel : ∀ (j : Nat) (o : Oper) cs b, ops[j]? = some o → o.op ≠ .select cs b)
    (hQ : ∀ c a w, Q (.panic c) (a.put oi.dst v) w → Q (.panic c) a w) (hiT : i ∉ T)
    (hS : ∀ w, S1 w → S2 w → S w) (hT : (∀ w, S1 w → S w) ∨ ∀ t ∈ T, ∀ ot, ops[t]? = some ot → ∃ e ∈ ot.after, Region.binds md e = true ∧ e.on = i) :
    ∀ (fuel : Nat) (listed : Array Bool) (a : Act) (w : World),
      (∀ j oj, ops[j]? = some oj → j ≠ i → listed.getD j true = false → (∀ e ∈ oj.after, Region.binds md e = true → e.on ≠ i) → oi.apart ops oj = true) →
      i ∈ Region.ready md ops listed → YieldsIf P ops S oi v a → (S1 w ∧ (noneOf T listed → S2 w)) → ((∀ w, S1 w → S w) ∨ noneOf T listed) →
      anyT P md ops Q S1 S2 T fuel (listed.setIfInBounds i true) (a.put oi.dst v) w → anyT P md ops Q S1 S2 T (fuel + 1) listed a w := by
  have hSS : ∀ (listed : Array Bool) w, ((∀ w, S1 w → S w) ∨ noneOf T listed) → (S1 w ∧ (noneOf T listed → S2 w)) → S w := fun listed w hn h => by
    rcases hn with hn | hn
    · exact hn w h.1
    · exact hS w h.1 (h.2 hn)
  intro fuel
  induction fuel with
  | zero =>
    intro listed a w _ hr hy hSw hn H
    refine ⟨fun h => (by rw [h] at hr; cases hr), fun j hj => ?_⟩
    by_cases hji : j = i
    · subst hji; exact hy.wpOp hi (hSS _ _ hn hSw) ⟨⟨hSw.1, fun h => hSw.2 ((noneOf_set hiT).1 h)⟩, H⟩
    · have := ready_mono hj hji
      rw [H.1] at this
      cases this
  | succ fuel ih =>
    intro listed a w hfree hr hy hSw hn H
    refine ⟨fun h => (by rw [h] at hr; cases hr), fun j hj => ?_⟩
    by_cases hji : j = i
    · subst hji; exact hy.wpOp hi (hSS _ _ hn hSw) ⟨⟨hSw.1, fun h => hSw.2 ((noneOf_set hiT).1 h)⟩, H⟩
    · have h1 := H.2 j (ready_mono hj hji)
      obtain ⟨hjun, oj, hoj, hall⟩ := mem_ready.1 hj
      have hnot : ∀ e ∈ oj.after, Region.binds md e = true → e.on ≠ i := fun e he hb heq => by
        have h1 := hall e he hb
        have h0 := (mem_ready.1 hr).1
        rw [heq] at h1
        rcases Nat.lt_or_ge i listed.size with h' | h'
        · simp [h'] at h0 h1; rw [h0] at h1; cases h1
        · simp [Array.getElem?_eq_none h'] at h1
      have hn' : (∀ w, S1 w → S w) ∨ noneOf T (listed.setIfInBounds j true) := by
        rcases hn with hn | hn
        · exact .inl hn
        · rcases hT with hT | hT
          · exact .inl hT
          · refine .inr ((noneOf_set (fun hjT => ?_)).2 hn)
            obtain ⟨e, he, hb, heq⟩ := hT j hjT oj hoj
            exact hnot e he hb heq
      have h2 := wpOp_putIf hoj (hfree j oj hoj hji hjun hnot) (fun cs b => hsel i oi cs b hi) (fun cs b => hsel j oj cs b hoj) hQ hy h1
      have hfree' : ∀ k ok, ops[k]? = some ok → k ≠ i → (listed.setIfInBounds j true).getD k true = false →
          (∀ e ∈ ok.after, Region.binds md e = true → e.on ≠ i) → oi.apart ops ok = true := fun k ok hk hki hun hno => by
        refine hfree k ok hk hki ?_ hno
        by_cases hjk : j = k
        · subst hjk; exact hjun
        · rw [getD_set_ne true hjk] at hun; exact hun
      refine wpOp_mono (fun a' w' h3 => ?_) h2
      have hS' : S1 w' ∧ (noneOf T (listed.setIfInBounds j true) → S2 w') := ⟨h3.2.1.1, fun h => h3.2.1.2 (by
        rw [Array.setIfInBounds_comm _ _ (Ne.symm hji)]
        exact (noneOf_set hiT).2 h)⟩
      refine ⟨hS', ih (listed.setIfInBounds j true) a' w' hfree' (ready_mono hr (Ne.symm hji)) h3.1 hS' hn' ?_⟩
      rw [Array.setIfInBounds_comm _ _ hji]
      exact h3.2.2
/-! ### The moves of a walk -/
def noneOfB (T : List Nat) (listed : Array Bool) : Bool := T.all fun t => !(listed.getD t true)
theorem noneOfB_iff {listed : Array Bool} : noneOfB T listed = true ↔ noneOf T listed := by
  unfold noneOfB noneOf
  rw [List.all_eq_true]
  exact ⟨fun h t ht => by simpa using h t ht, fun h t ht => by simpa using h t ht⟩
def waitsB (md : Region.Mode) (ops : Array Oper) (i t : Nat) : Bool := match ops[t]? with
  | some o => o.after.any fun e => Region.binds md e && e.on == i
  | none => true
theorem waitsB_spec {i t : Nat} (h : waitsB md ops i t = true) : ∀ ot, ops[t]? = some ot → ∃ e ∈ ot.after, Region.binds md e = true ∧ e.on = i := by
  intro ot hot
  unfold waitsB at h
  rw [hot] at h
  simp only [Array.any_eq_true'] at h
  obtain ⟨e, he, hb⟩ := h
  rw [Bool.and_eq_true, beq_iff_eq] at hb
  exact ⟨e, he, hb.1, hb.2⟩
/-- number i is taken first: it yields in every world that meets S1 -/
theorem anyT_take1 {i : Nat} {oi : Oper} {v : Value} {fuel : Nat} {listed : Array Bool} {a : Act} {w : World} (hi : ops[i]? = some oi)
    (hs : Region.noSelect ops = true) (hf : Region.free md ops listed i = true) (hr : (Region.ready md ops listed).contains i = true) (hiT : T.contains i = false)
    (hQ : ∀ c a w, Q (.panic c) (a.put oi.dst v) w → Q (.panic c) a w) (hy : YieldsIf P ops S1 oi v a) (hSw : S1 w ∧ (noneOfB T listed = true → S2 w))
    (h : anyT P md ops Q S1 S2 T fuel (listed.setIfInBounds i true) (a.put oi.dst v) w) : anyT P md ops Q S1 S2 T (fuel + 1) listed a w :=
  anyT_first hi (Region.noSelect_spec hs) hQ (by simpa using hiT) (fun _ h _ => h) (.inl fun _ h => h) fuel listed a w (Region.free_spec hi hf) (by simpa using hr) hy ⟨hSw.1, fun h => hSw.2 (noneOfB_iff.2 h)⟩ (.inl fun _ h => h) h
/-- number i is taken first: it yields in every world that meets both, and each of T waits for it -/
theorem anyT_take2 {i : Nat} {oi : Oper} {v : Value} {fuel : Nat} {listed : Array Bool} {a : Act} {w : World} (hi : ops[i]? = some oi)
    (hs : Region.noSelect ops = true) (hf : Region.free md ops listed i = true) (hr : (Region.ready md ops listed).contains i = true) (hiT : T.contains i = false) (hW : T.all (waitsB md ops i) = true) (hN : noneOfB T listed = true)
    (hQ : ∀ c a w, Q (.panic c) (a.put oi.dst v) w → Q (.panic c) a w) (hy : YieldsIf P ops (fun w => S1 w ∧ S2 w) oi v a) (hSw : S1 w ∧ (noneOfB T listed = true → S2 w))
    (h : anyT P md ops Q S1 S2 T fuel (listed.setIfInBounds i true) (a.put oi.dst v) w) : anyT P md ops Q S1 S2 T (fuel + 1) listed a w :=
  anyT_first hi (Region.noSelect_spec hs) hQ (by simpa using hiT) (fun _ h1 h2 => ⟨h1, h2⟩) (.inr fun t ht => waitsB_spec (List.all_eq_true.1 hW t ht)) fuel listed a w (Region.free_spec hi hf) (by simpa using hr) hy ⟨hSw.1, fun h => hSw.2 (noneOfB_iff.2 h)⟩ (.inr (noneOfB_iff.1 hN)) h
def AllT (P : Program) (md : Region.Mode) (ops : Array Oper) (Q : Exit → Act → World → Prop) (S1 S2 : World → Prop) (T : List Nat) (fuel : Nat) (listed : Array Bool) (a : Act) (w : World) (rs : List Nat) : Prop :=
  ∀ i ∈ rs, wpOp P ops Q i (fun a' w' => (S1 w' ∧ (noneOf T (listed.setIfInBounds i true) → S2 w')) ∧ anyT P md ops Q S1 S2 T fuel (listed.setIfInBounds i true) a' w') a w
theorem AllT.nil {fuel : Nat} {listed : Array Bool} {a : Act} {w : World} : AllT P md ops Q S1 S2 T fuel listed a w [] := fun _ h => by cases h
theorem AllT.cons {fuel : Nat} {listed : Array Bool} {a : Act} {w : World} {i : Nat} {o : Oper} {rs : List Nat} (ho : ops[i]? = some o)
    (h : ∀ K' : Act → World → Prop, Shut (∀ a w, S1 w → (noneOfB T (listed.setIfInBounds i true) = true → S2 w) → anyT P md ops Q S1 S2 T fuel (listed.setIfInBounds i true) a w → K' a w) → if Region.wanted o (yielded ops a.tmps) = true then Oper.wp P o a w K' Q else K' (a.put o.dst undef) w)
    (hs : AllT P md ops Q S1 S2 T fuel listed a w rs) : AllT P md ops Q S1 S2 T fuel listed a w (i :: rs) := fun j hj => by
  rcases List.mem_cons.1 hj with rfl | hj
  · exact wpOp_step ho (fun K' hK => h K' (fun a w h1 h2 hW => hK a w ⟨⟨h1, fun h => h2 (noneOfB_iff.2 h)⟩, hW⟩))
  · exact hs j hj
theorem anyT_ready {rs : List Nat} {fuel : Nat} {listed : Array Bool} {a : Act} {w : World} (hr : Region.ready md ops listed = rs) (hne : rs ≠ [])
    (h : AllT P md ops Q S1 S2 T fuel listed a w rs) : anyT P md ops Q S1 S2 T (fuel + 1) listed a w := ⟨fun h0 => absurd (hr ▸ h0) hne, hr ▸ h⟩
theorem anyT_done {listed : Array Bool} {a : Act} {w : World} (hr : Region.ready md ops listed = []) (h : Q .normal a w) : ∀ fuel, anyT P md ops Q S1 S2 T fuel listed a w
  | 0 => ⟨hr, h⟩
  | _ + 1 => ⟨fun _ => h, by rw [hr]; simp⟩
theorem wp_region_T {id : Nat} {a : Act} {w : World} (T : List Nat) (S1 S2 : World → Prop) (hm : P.follows .mixedOrders = true)
    (h : anyT P .any ops Q S1 S2 T ops.size (Array.replicate ops.size false) a w.drew) : (Code.region id ops true).wp P Q a w :=
  wp_region_any hm (any_of_T _ _ _ _ h)
theorem notNone {b : Bool} (h : b = true) (h' : b = false) : False := by rw [h] at h'; cases h'
end
end Go.Proofs.YtkgmimmneeppgaaDoor

namespace Go.Proofs.YtkgmimmneeppgaaDoor
set_option maxRecDepth 100000
open Go.RowKit
set_option linter.unusedVariables false

theorem mm_small {who : List Int} {x w : Int} {i : Nat} (h : who.length ≤ 8) : mm who x w i ≤ 17 := by
  unfold mm
  have h1 : who.countP (fun y => decide (y < w)) ≤ who.length := List.countP_le_length
  have h2 : (who.take i).countP (fun y => decide (y = w)) ≤ (who.take i).length := List.countP_le_length
  rw [List.length_take] at h2
  split <;> omega
theorem insL_take {α : Type} {F L : List α} {m : Nat} {z : α} (hF : F = L.take m) (h : L[m]? = some z) : F ++ [z] = L.take (m + 1) := by rw [hF]; exact take_more h

set_option maxHeartbeats 16000000 in
theorem rsign_any (s : Stp) (at_ x : Int) (key : List UInt8) (A : Option Addr) (c : Nat) (B : Option Addr) (d : Nat) (w : World) (hR : StR w s A c B d) (hz : StSz 1099511627776 s) (hT : TabK w) (hkey : key.length ≤ 1099511627776) :
    Calls Tryd.prog 32 #[.agg (stepA s A c B d), .int .i64 at_, .int .i64 x, .string (bs key)] w fun e w' => ∃ A' c' B' d', e = .returned (.tuple #[.agg (stepA (stSg s at_ x key).1 A' c' B' d'), .int .i64 (stSg s at_ x key).2]) ∧ StR w' (stSg s at_ x key).1 A' c' B' d' ∧ Gr w w' := by
  obtain ⟨wa, hwa⟩ : ∃ y, y = (w.alloc (.cells (stepA s A c B d) 46)).alloc (.cells (stepA stpZ none 0 none 0) 46) := ⟨_, rfl⟩
  have hb : Blk wa w.heap.size 46 (stepA s A c B d) := by rw [hwa]; exact (Blk.new w _ _).alloc _
  have hr : Blk wa (w.heap.size + 1) 46 (stepA stpZ none 0 none 0) := by rw [hwa]; exact Blk.new1 w _ _ _
  have hg0 : Gr w wa := by rw [hwa]; exact ((Gr.refl w).alloc _).alloc _
  obtain ⟨p, hp⟩ : ∃ p, p = w.heap.size := ⟨_, rfl⟩
  rw [← hp] at hb hr
  have hwp : w.heap.size ≤ p := by omega
  have hwp1 : w.heap.size ≤ p + 1 := by omega
  have HGo : Sec (Calls Tryd.prog 26 #[.agg (stepA s A c B d)] wa fun e w' => e = .returned (.int .i64 (stE s)) ∧ Gr wa w') := sec (rstGood_any s A c B d wa (hR.gr hg0) hz)
  have HBo : Sec (∀ W, Calls Tryd.prog 24 #[.int .i64 at_, .agg (stepA s A c B d)] W fun e w' => e = .returned (.tuple #[.string (bs (bodyR at_ s).1), .int .i64 (bodyR at_ s).2]) ∧ Gr W w') := sec (fun W => rstBody_any at_ s A c B d W hz)
  have HBL := sec (bodyR_len at_ s)
  have HSe : Sec (∀ w', Calls Tryd.prog 39 #[.string (bs key), .string (bs (bodyR at_ s).1)] w' fun e w'' => e = .returned (.string (bs (seal' key (bodyR at_ s).1))) ∧ Gr w' w'') := sec (fun w' => rseal_any key _ w' (by omega) (by have := HBL.out; omega))
  have HRW := sec hR
  have HSE := sec (fun h => stE_zero (s := s) h)
  obtain ⟨V, hV⟩ : ∃ V, V = stSg s at_ x key := ⟨_, rfl⟩
  rw [← hV]
  have HV := sec hV
  obtain ⟨E, hE⟩ : ∃ E, E = stE s := ⟨_, rfl⟩
  rw [← hE] at HGo HSE
  have HE := sec hE
  obtain ⟨b, hbb⟩ : ∃ b, b = (bodyR at_ s).1 := ⟨_, rfl⟩
  obtain ⟨be, hbe⟩ : ∃ b, b = (bodyR at_ s).2 := ⟨_, rfl⟩
  rw [← hbb, ← hbe] at HBo
  rw [← hbb] at HSe
  obtain ⟨SV, hSV⟩ : ∃ y, y = seal' key b := ⟨_, rfl⟩
  rw [← hSV] at HSe
  have HVV : Sec (V = if E = 0 then (if be = 0 then (if x < 0 ∨ 7 < x then (stpZ, 3) else if s.who[kx s.who x]? = some x then (stpZ, 8) else (⟨s.r, s.o, s.n, insL (kx s.who x) x s.who, insL (kx s.who x) SV s.seals⟩, 0)) else (stpZ, be)) else (stpZ, E)) := sec (by rw [HV.out, hSV, hbb, hbe, hE]; rfl)
  clear hV hE hbb hbe HV HE HBL hSV
  have HB := sec hb
  have HZ := sec hr
  obtain ⟨r, o, n, who, seals⟩ := s
  unfold stepA stpZ at hwa
  unfold stepA at hb HGo HBo HB
  simp only [List.length_nil] at hwa
  simp only at hb HGo HBo HVV HSE HB
  unfold stepA
  have HCELL : Sec (∀ w', Gr wa w' → w'.cell? ⟨p, 0, none⟩ = some (.string (bs r)) ∧ w'.cell? ⟨p, 1, none⟩ = some (.string (bs o)) ∧ w'.cell? ⟨p, 2, none⟩ = some (.string (bs n)) ∧ w'.cell? ⟨p, 3, none⟩ = some (.slice A who.length c) ∧ w'.cell? ⟨p, 4, none⟩ = some (.slice B seals.length d)) := sec (fun w' g => ⟨(hb.gr g).cell 0, (hb.gr g).cell 1, (hb.gr g).cell 2, (hb.gr g).cell 3, (hb.gr g).cell 4⟩)
  clear hb hr hR hz hT
  obtain ⟨u0, u1, u2, u3, u4⟩ := HCELL.out wa (Gr.refl _)
  by_cases h0 : E = 0
  · obtain ⟨-, -, -, -, z4, z5, z6, z7, zF⟩ := HSE.out h0
    try simp only at z4 z5 z6 z7 zF
    subst h0
    by_cases h1 : be = 0
    · subst h1
      by_cases hx : x < 0 ∨ 7 < x
      · have HV3 : Sec (V = (stpZ, 3)) := sec (by rw [HVV.out, if_pos rfl, if_pos rfl, if_pos hx])
        by_cases hx0 : x < 0
        · have x0 : decide (x < 0) = true := decide_eq_true hx0
          clear HVV HSE hx z4 z5 z6 z7 zF
          go_enter Tryd.func32, Tryd.ntmps32
          go_upto_region 1 with fail
          rw [← hwa, ← hp]
          clear hwa hp
          go_wp2_with (first
            | (go_at_call 26; refine Calls.mono HGo.out ?_; rintro e w1 ⟨rfl, g1⟩; obtain ⟨v0, v1, v2, v3, v4⟩ := HCELL.out w1 g1)
            | (go_at_call 24; refine Calls.mono (HBo.out _) ?_; rintro e w2 ⟨rfl, g2'⟩; have g2 : Gr wa w2 := Gr.trans g1 g2'; obtain ⟨z0, z1, z2, z3, z4⟩ := HCELL.out w2 g2)
            | (refine wpList_store_blk rfl 46 (.tmp 8) _ rfl (g := p + 1) (cs' := stepA stpZ none 0 none 0) rfl rfl (HZ.out.gr g2) aggStep rfl (stepA_one _ _ _ _ _) ?_; intro w9 h9 hg9))
          refine bodyPost_ret (results_blk_tmp rfl _ rfl h9 aggStep) rfl ?_
          rw [HV3.out]
          exact ⟨none, 0, none, 0, rfl, StR.zero _, Gr.only (hg0.trans g2) hg9 hwp1⟩
        · have x0 : decide (x < 0) = false := decide_eq_false hx0
          have x1 : decide (7 < x) = true := decide_eq_true (by omega)
          clear HVV HSE hx z4 z5 z6 z7 zF
          go_enter Tryd.func32, Tryd.ntmps32
          go_upto_region 1 with fail
          rw [← hwa, ← hp]
          clear hwa hp
          go_wp2_with (first
            | (go_at_call 26; refine Calls.mono HGo.out ?_; rintro e w1 ⟨rfl, g1⟩; obtain ⟨v0, v1, v2, v3, v4⟩ := HCELL.out w1 g1)
            | (go_at_call 24; refine Calls.mono (HBo.out _) ?_; rintro e w2 ⟨rfl, g2'⟩; have g2 : Gr wa w2 := Gr.trans g1 g2'; obtain ⟨z0, z1, z2, z3, z4⟩ := HCELL.out w2 g2)
            | (refine wpList_store_blk rfl 46 (.tmp 8) _ rfl (g := p + 1) (cs' := stepA stpZ none 0 none 0) rfl rfl (HZ.out.gr g2) aggStep rfl (stepA_one _ _ _ _ _) ?_; intro w9 h9 hg9))
          refine bodyPost_ret (results_blk_tmp rfl _ rfl h9 aggStep) rfl ?_
          rw [HV3.out]
          exact ⟨none, 0, none, 0, rfl, StR.zero _, Gr.only (hg0.trans g2) hg9 hwp1⟩
      · have HV2 : Sec (V = if who[kx who x]? = some x then (stpZ, 8) else (⟨r, o, n, insL (kx who x) x who, insL (kx who x) SV seals⟩, 0)) := sec (by rw [HVV.out, if_pos rfl, if_pos rfl, if_neg hx])
        have x0 : decide (x < 0) = false := decide_eq_false (by omega)
        have x1 : decide (7 < x) = false := decide_eq_false (by omega)
        have hx0 : 0 ≤ x := by omega
        have hx7 : x ≤ 7 := by omega
        have HPW := sec (stF_pair who seals (-1) z5.symm zF)
        have HSL := sec z5
        have HRNG := sec z7
        have HX0 := sec hx0
        have HX7 := sec hx7
        have HWL := sec z4
        clear HVV HSE z4 z5 z6 z7 zF hx hx0 hx7
        go_enter Tryd.func32, Tryd.ntmps32
        go_upto_region 1 with fail
        rw [← hwa, ← hp]
        clear hwa hp
        go_upto_region 10 with (first
          | (go_at_call 26; refine Calls.mono HGo.out ?_; rintro e w1 ⟨rfl, g1⟩; obtain ⟨v0, v1, v2, v3, v4⟩ := HCELL.out w1 g1)
          | (go_at_call 24; refine Calls.mono (HBo.out _) ?_; rintro e w2 ⟨rfl, g2'⟩; have g2 : Gr wa w2 := Gr.trans g1 g2'; obtain ⟨z0, z1, z2, z3, z4⟩ := HCELL.out w2 g2))

        obtain ⟨q, hq⟩ : ∃ q, q = w2.heap.size := ⟨_, rfl⟩
        have HT0 : Sec (Tw w2 q (q + 1) r o n 0 [] [] (w2.alloc (.cells #[.string (bs r), .string (bs o), .string (bs n), .slice none 0 0, .slice none 0 0] 46))) := sec (by rw [hq]; exact Tw.new (Blk.new _ _ _) ((Gr.refl _).alloc _) (by omega) (Nat.le_refl _))
        have HQ : Sec (w2.heap.size ≤ q ∧ p + 1 < q) := sec ⟨by omega, by rw [hq]; exact (HZ.out.gr g2).lt⟩
        rw [← hq]
        obtain ⟨wb, hwb⟩ : ∃ y, y = w2.alloc (.cells #[.string (bs r), .string (bs o), .string (bs n), .slice none 0 0, .slice none 0 0] 46) := ⟨_, rfl⟩
        rw [← hwb] at HT0 ⊢
        clear hq hwb z0 z1 z2 z3 z4 v0 v1 v2 v3 v4 u0 u1 u2 u3 u4
        have HGW : Sec (∀ {N F G W}, Tw w2 q (q + 1) r o n N F G W → Gr wa W) := sec (fun h => by obtain ⟨_, _, _, _, h⟩ := h; exact g2.trans h.gr)
        have HP4 : Sec (∀ W, Gr wa W → p + 1 < W.heap.size) := sec (fun W g => (HZ.out.gr g).lt)
        go_wp2_with fail
        go_loopg [46, 14] 8 (fun fuel wv _ wr => ∃ m : Nat, wv = .int .i64 (m : Int) ∧ 8 ≤ m + fuel ∧ m ≤ 8 ∧ Sec (∃ N F G, N ≤ 17 ∧ SgW who x seals SV (m : Int) 0 F G ∧ Tw w2 q (q + 1) r o n N F G wr))
        case atStart => exact ⟨0, rfl, by omega, by omega, sec ⟨0, [], [], by omega, SgW.start HRNG.out HX0.out, HT0.out⟩⟩
        case round =>
          obtain ⟨m, rfl, hmk, hm, HF⟩ := hrel
          have gw : Gr wa wr := by obtain ⟨N, F, G, _, _, h⟩ := HF.out; exact HGW.out h
          obtain ⟨gko, hgko⟩ : ∃ y, y = gk := ⟨_, rfl⟩
          obtain ⟨y0, y1, y2, y3, y4⟩ := HCELL.out wr gw
          by_cases hm8 : m < 8
          · have hmi : (m : Int) < 8 := by omega
            go_wp2_with fail
            clear y0 y1 y2 y3 y4
            go_loopg [52, 15] who.length (fun fuel iv _ wr => ∃ i : Nat, iv = .int .i64 (i : Int) ∧ who.length ≤ i + fuel ∧ i ≤ who.length ∧ Sec (∃ N F G, N ≤ 17 ∧ SgW who x seals SV (m : Int) i F G ∧ Tw w2 q (q + 1) r o n N F G wr))
            case atStart => exact ⟨0, rfl, by omega, by omega, HF⟩
            case round =>
              clear HF gw
              obtain ⟨i, rfl, hik, hi, HF⟩ := hrel
              obtain ⟨N, F, G, hN, HW', A1, c1, B1, d1, M0'⟩ := HF.out
              have HW := sec HW'
              have gw : Gr wa _ := g2.trans M0'.gr
              clear HF HW'
              obtain ⟨y0, y1, y2, y3, y4⟩ := HCELL.out _ gw
              have M0 := M0'.drew
              have hwl8 : who.length ≤ 8 := HWL.out
              have hb8 : (N + 1) * 8 ≤ 140737488355328 := by omega
              have hb16 : (N + 1) * 16 ≤ 140737488355328 := by omega
              have hbm : N + 1 ≤ maxLen := by unfold maxLen; omega
              by_cases hlt : i < who.length
              · have hii : (i : Int) < (who.length : Int) := by omega
                have hls : i < seals.length := by rw [HSL.out]; exact hlt
                have hij : (i : Int) < (seals.length : Int) := by omega
                obtain ⟨bk, off, rfl, e0⟩ := (HRW.out.who.gr (hg0.trans gw)).cell hlt
                simp only at e0
                obtain ⟨mw, hmw⟩ : ∃ y, y = who[i] := ⟨_, rfl⟩
                rw [← hmw] at e0
                by_cases hit : mw = (m : Int)
                · have q1 : (mw != (m : Int)) = false := by rw [bne_eq_false_iff_eq]; exact hit
                  by_cases hmx : (m : Int) = x
                  · have q2 : ((m : Int) == x) = true := by rw [beq_iff_eq]; exact hmx
                    have HV8 : Sec (V = (stpZ, 8)) := sec (by rw [HV2.out, if_pos (SgW.err HPW.out hlt (by rw [← hmw, hit, hmx]))])
                    clear hmw hit hmx hls hij M0
                    go_wp2_with (refine wpList_store_blk rfl 46 (.tmp 8) _ rfl (g := p + 1) (cs' := stepA stpZ none 0 none 0) rfl rfl (HZ.out.gr gw) aggStep rfl (stepA_one _ _ _ _ _) ?_; intro w9 h9 hg9)
                    refine bodyPost_ret (results_blk_tmp rfl _ rfl h9 aggStep) rfl ?_
                    rw [HV8.out]
                    exact ⟨none, 0, none, 0, rfl, StR.zero _, Gr.only (hg0.trans gw) hg9 hwp1⟩
                  · have q2 : ((m : Int) == x) = false := by rw [beq_eq_false_iff_ne]; exact hmx
                    obtain ⟨bk', off', rfl, e9⟩ := (HRW.out.seals.gr (hg0.trans gw)).cell hls
                    simp only at e9
                    have HW1 := HW.out.hit HPW.out HSL.out hlt hls (by rw [← hmw]; exact hit) hmx
                    obtain ⟨sv, hsv⟩ : ∃ y, y = seals[i] := ⟨_, rfl⟩
                    rw [← hsv] at e9 HW1
                    have hN1 : N + 1 ≤ 17 := by
                      have h1 := HW1.lenF
                      rw [List.length_append, M0'.lenF] at h1
                      have h2 := mm_small (x := x) (w := (m : Int)) (i := i + 1) HWL.out
                      simp only [List.length_cons, List.length_nil] at h1
                      omega
                    have HW1' := sec HW1
                    have HC : Sec (∀ X Y N' M' F' G' W, Md w2 q (q + 1) (TwA r o n A1 c1 N B1 d1 N) X Y N' M' F' G' W → W.cell? ⟨q, 3, none⟩ = some (.slice A1 N c1) ∧ W.cell? ⟨q, 4, none⟩ = some (.slice B1 N d1) ∧ W.frozen? ⟨q, 3, none⟩ = false ∧ W.frozen? ⟨q, 4, none⟩ = false ∧ W.cell? ⟨p, 4, none⟩ = some (.slice (some ⟨bk', off', none⟩) seals.length d) ∧ W.cell? ⟨bk', off' + i, none⟩ = some (.string (bs sv))) := sec (fun X Y N' M' F' G' W h => ⟨h.blk.cell 3, h.blk.cell 4, h.blk.frozen 3, h.blk.frozen 4, (HCELL.out W (g2.trans h.gr)).2.2.2.2, by
                      obtain ⟨b5, o5, e5, e6⟩ := (HRW.out.seals.gr (hg0.trans (g2.trans h.gr))).cell hls
                      injection e5 with e5; injection e5 with e5 e7 _
                      subst e5 e7
                      simp only at e6
                      rw [hsv]; exact e6⟩)
                    have HLT := sec hlt
                    have HLS := sec hls
                    have HSV := sec hsv
                    have HH := sec hN1
                    clear hmw hit hmx hsv HW1 hN1
                    go_upto_region 19 with fail
                    clear y0 y1 y2 y3 y4 e0 e9
                    obtain ⟨k0, k1, k2, k3, k4, k5⟩ := HC.out _ _ _ _ _ _ _ (M0')
                    obtain ⟨l0, l1, l2, l3, l4, l5⟩ := HC.out _ _ _ _ _ _ _ (M0'.al (.cells #[.int .i64 (m : Int)] 3))
                    obtain ⟨n0, n1, n2, n3, n4, n5⟩ := HC.out _ _ _ _ _ _ _ (M0'.al (.cells #[.string (bs sv)] 9))
                    obtain ⟨s0, s1, s2, s3, s4, s5⟩ := HC.out _ _ _ _ _ _ _ ((M0'.al (.cells #[.int .i64 (m : Int)] 3)).al (.cells #[.string (bs sv)] 9))
                    obtain ⟨t0, t1, t2, t3, t4, t5⟩ := HC.out _ _ _ _ _ _ _ ((M0'.al (.cells #[.string (bs sv)] 9)).al (.cells #[.int .i64 (m : Int)] 3))
                    have HSP : Sec (∀ W, Gr wa W → W.cell? ⟨p, 4, none⟩ = some (.slice (some ⟨bk', off', none⟩) seals.length d) ∧ W.cell? ⟨bk', off' + i, none⟩ = some (.string (bs sv))) := sec (fun W g => ⟨(HCELL.out W g).2.2.2.2, by
                      obtain ⟨b5, o5, e5, e6⟩ := (HRW.out.seals.gr (hg0.trans g)).cell HLS.out
                      injection e5 with e5; injection e5 with e5 e7 _
                      subst e5 e7
                      simp only at e6
                      rw [HSV.out]; exact e6⟩)
                    have hwaq : wa.heap.size ≤ q := by have := g2.size; have := HQ.out.1; omega
                    have HS2 : Sec (∀ X Y N' M' F' G' W, Md w2 q (q + 1) (TwA r o n A1 c1 N B1 d1 N) X Y N' M' F' G' W → W.cell? ⟨q, 3, none⟩ = some (.slice A1 N c1) ∧ W.cell? ⟨q, 4, none⟩ = some (.slice B1 N d1)) := sec (fun X Y N' M' F' G' W h => ⟨h.blk.cell 3, h.blk.cell 4⟩)
                    refine wp_region_T [15, 17] (fun W => W.cell? ⟨p, 4, none⟩ = some (.slice (some ⟨bk', off', none⟩) seals.length d) ∧ W.cell? ⟨bk', off' + i, none⟩ = some (.string (bs sv))) (fun W => W.cell? ⟨q, 3, none⟩ = some (.slice A1 N c1) ∧ W.cell? ⟨q, 4, none⟩ = some (.slice B1 N d1)) (by kernel_rfl) ?_
                    refine anyT_take1 (i := 0) (v := ?v1) rfl (by kernel_rfl) (by kernel_rfl) (by kernel_rfl) rfl (fun _ _ _ h => h) (Or.inl ⟨by rfl, ?hy1⟩) ⟨?h1x1, ?h2x1⟩ ?rest1
                    case hy1 => (intro w hSw; (try dsimp only at hSw); go_simp; try with_reducible rfl)
                    case h1x1 => (refine HSP.out _ ?_; repeat (first | with_reducible exact gw | with_reducible exact GC | with_reducible exact GA | with_reducible refine Gr.drew ?_ | with_reducible refine Gr.alloc ?_ _ | with_reducible refine Gr.setCell ?_ hwaq _))
                    case h2x1 => (intro _; first | with_reducible exact HS2.out _ _ _ _ _ _ _ (MC) | with_reducible exact HS2.out _ _ _ _ _ _ _ (MC.drew) | with_reducible exact HS2.out _ _ _ _ _ _ _ (MA) | with_reducible exact HS2.out _ _ _ _ _ _ _ (MA.drew) | with_reducible exact HS2.out _ _ _ _ _ _ _ (MA.al _) | with_reducible exact HS2.out _ _ _ _ _ _ _ ((MA.al _).drew) | with_reducible exact HS2.out _ _ _ _ _ _ _ (M0'.drew) | with_reducible exact HS2.out _ _ _ _ _ _ _ (M0'.drew.al _) | with_reducible exact HS2.out _ _ _ _ _ _ _ ((M0'.al _).drew) | with_reducible exact HS2.out _ _ _ _ _ _ _ ((M0'.drew.al _).al _) | with_reducible exact HS2.out _ _ _ _ _ _ _ (((M0'.al _).al _).drew) | with_reducible exact HS2.out _ _ _ _ _ _ _ (M0'.al _) | with_reducible exact HS2.out _ _ _ _ _ _ _ ((M0'.al _).al _))
                    refine anyT_take2 (i := 1) (v := ?v2) rfl (by kernel_rfl) (by kernel_rfl) (by kernel_rfl) rfl (by kernel_rfl) (by kernel_rfl) (fun _ _ _ h => h) (Or.inl ⟨by rfl, ?hy2⟩) ⟨?h1x2, ?h2x2⟩ ?rest2
                    case hy2 => (intro w hSw; (try dsimp only at hSw); go_simp; try with_reducible rfl)
                    case h1x2 => (refine HSP.out _ ?_; repeat (first | with_reducible exact gw | with_reducible exact GC | with_reducible exact GA | with_reducible refine Gr.drew ?_ | with_reducible refine Gr.alloc ?_ _ | with_reducible refine Gr.setCell ?_ hwaq _))
                    case h2x2 => (intro _; first | with_reducible exact HS2.out _ _ _ _ _ _ _ (MC) | with_reducible exact HS2.out _ _ _ _ _ _ _ (MC.drew) | with_reducible exact HS2.out _ _ _ _ _ _ _ (MA) | with_reducible exact HS2.out _ _ _ _ _ _ _ (MA.drew) | with_reducible exact HS2.out _ _ _ _ _ _ _ (MA.al _) | with_reducible exact HS2.out _ _ _ _ _ _ _ ((MA.al _).drew) | with_reducible exact HS2.out _ _ _ _ _ _ _ (M0'.drew) | with_reducible exact HS2.out _ _ _ _ _ _ _ (M0'.drew.al _) | with_reducible exact HS2.out _ _ _ _ _ _ _ ((M0'.al _).drew) | with_reducible exact HS2.out _ _ _ _ _ _ _ ((M0'.drew.al _).al _) | with_reducible exact HS2.out _ _ _ _ _ _ _ (((M0'.al _).al _).drew) | with_reducible exact HS2.out _ _ _ _ _ _ _ (M0'.al _) | with_reducible exact HS2.out _ _ _ _ _ _ _ ((M0'.al _).al _))
                    refine anyT_take1 (i := 2) (v := ?v3) rfl (by kernel_rfl) (by kernel_rfl) (by kernel_rfl) rfl (fun _ _ _ h => h) (Or.inl ⟨by rfl, ?hy3⟩) ⟨?h1x3, ?h2x3⟩ ?rest3
                    case hy3 => (intro w hSw; (try dsimp only at hSw); go_simp; try with_reducible rfl)
                    case h1x3 => (refine HSP.out _ ?_; repeat (first | with_reducible exact gw | with_reducible exact GC | with_reducible exact GA | with_reducible refine Gr.drew ?_ | with_reducible refine Gr.alloc ?_ _ | with_reducible refine Gr.setCell ?_ hwaq _))
                    case h2x3 => (intro _; first | with_reducible exact HS2.out _ _ _ _ _ _ _ (MC) | with_reducible exact HS2.out _ _ _ _ _ _ _ (MC.drew) | with_reducible exact HS2.out _ _ _ _ _ _ _ (MA) | with_reducible exact HS2.out _ _ _ _ _ _ _ (MA.drew) | with_reducible exact HS2.out _ _ _ _ _ _ _ (MA.al _) | with_reducible exact HS2.out _ _ _ _ _ _ _ ((MA.al _).drew) | with_reducible exact HS2.out _ _ _ _ _ _ _ (M0'.drew) | with_reducible exact HS2.out _ _ _ _ _ _ _ (M0'.drew.al _) | with_reducible exact HS2.out _ _ _ _ _ _ _ ((M0'.al _).drew) | with_reducible exact HS2.out _ _ _ _ _ _ _ ((M0'.drew.al _).al _) | with_reducible exact HS2.out _ _ _ _ _ _ _ (((M0'.al _).al _).drew) | with_reducible exact HS2.out _ _ _ _ _ _ _ (M0'.al _) | with_reducible exact HS2.out _ _ _ _ _ _ _ ((M0'.al _).al _))
                    refine anyT_take1 (i := 5) (v := ?v4) rfl (by kernel_rfl) (by kernel_rfl) (by kernel_rfl) rfl (fun _ _ _ h => h) (Or.inl ⟨by rfl, ?hy4⟩) ⟨?h1x4, ?h2x4⟩ ?rest4
                    case hy4 => (intro w hSw; (try dsimp only at hSw); go_simp; try with_reducible rfl)
                    case h1x4 => (refine HSP.out _ ?_; repeat (first | with_reducible exact gw | with_reducible exact GC | with_reducible exact GA | with_reducible refine Gr.drew ?_ | with_reducible refine Gr.alloc ?_ _ | with_reducible refine Gr.setCell ?_ hwaq _))
                    case h2x4 => (intro _; first | with_reducible exact HS2.out _ _ _ _ _ _ _ (MC) | with_reducible exact HS2.out _ _ _ _ _ _ _ (MC.drew) | with_reducible exact HS2.out _ _ _ _ _ _ _ (MA) | with_reducible exact HS2.out _ _ _ _ _ _ _ (MA.drew) | with_reducible exact HS2.out _ _ _ _ _ _ _ (MA.al _) | with_reducible exact HS2.out _ _ _ _ _ _ _ ((MA.al _).drew) | with_reducible exact HS2.out _ _ _ _ _ _ _ (M0'.drew) | with_reducible exact HS2.out _ _ _ _ _ _ _ (M0'.drew.al _) | with_reducible exact HS2.out _ _ _ _ _ _ _ ((M0'.al _).drew) | with_reducible exact HS2.out _ _ _ _ _ _ _ ((M0'.drew.al _).al _) | with_reducible exact HS2.out _ _ _ _ _ _ _ (((M0'.al _).al _).drew) | with_reducible exact HS2.out _ _ _ _ _ _ _ (M0'.al _) | with_reducible exact HS2.out _ _ _ _ _ _ _ ((M0'.al _).al _))
                    refine anyT_take2 (i := 6) (v := ?v5) rfl (by kernel_rfl) (by kernel_rfl) (by kernel_rfl) rfl (by kernel_rfl) (by kernel_rfl) (fun _ _ _ h => h) (Or.inl ⟨by rfl, ?hy5⟩) ⟨?h1x5, ?h2x5⟩ ?rest5
                    case hy5 => (intro w hSw; (try dsimp only at hSw); go_simp; try with_reducible rfl)
                    case h1x5 => (refine HSP.out _ ?_; repeat (first | with_reducible exact gw | with_reducible exact GC | with_reducible exact GA | with_reducible refine Gr.drew ?_ | with_reducible refine Gr.alloc ?_ _ | with_reducible refine Gr.setCell ?_ hwaq _))
                    case h2x5 => (intro _; first | with_reducible exact HS2.out _ _ _ _ _ _ _ (MC) | with_reducible exact HS2.out _ _ _ _ _ _ _ (MC.drew) | with_reducible exact HS2.out _ _ _ _ _ _ _ (MA) | with_reducible exact HS2.out _ _ _ _ _ _ _ (MA.drew) | with_reducible exact HS2.out _ _ _ _ _ _ _ (MA.al _) | with_reducible exact HS2.out _ _ _ _ _ _ _ ((MA.al _).drew) | with_reducible exact HS2.out _ _ _ _ _ _ _ (M0'.drew) | with_reducible exact HS2.out _ _ _ _ _ _ _ (M0'.drew.al _) | with_reducible exact HS2.out _ _ _ _ _ _ _ ((M0'.al _).drew) | with_reducible exact HS2.out _ _ _ _ _ _ _ ((M0'.drew.al _).al _) | with_reducible exact HS2.out _ _ _ _ _ _ _ (((M0'.al _).al _).drew) | with_reducible exact HS2.out _ _ _ _ _ _ _ (M0'.al _) | with_reducible exact HS2.out _ _ _ _ _ _ _ ((M0'.al _).al _))
                    refine anyT_take1 (i := 7) (v := ?v6) rfl (by kernel_rfl) (by kernel_rfl) (by kernel_rfl) rfl (fun _ _ _ h => h) (Or.inl ⟨by rfl, ?hy6⟩) ⟨?h1x6, ?h2x6⟩ ?rest6
                    case hy6 => (intro w hSw; (try dsimp only at hSw); go_simp; try with_reducible rfl)
                    case h1x6 => (refine HSP.out _ ?_; repeat (first | with_reducible exact gw | with_reducible exact GC | with_reducible exact GA | with_reducible refine Gr.drew ?_ | with_reducible refine Gr.alloc ?_ _ | with_reducible refine Gr.setCell ?_ hwaq _))
                    case h2x6 => (intro _; first | with_reducible exact HS2.out _ _ _ _ _ _ _ (MC) | with_reducible exact HS2.out _ _ _ _ _ _ _ (MC.drew) | with_reducible exact HS2.out _ _ _ _ _ _ _ (MA) | with_reducible exact HS2.out _ _ _ _ _ _ _ (MA.drew) | with_reducible exact HS2.out _ _ _ _ _ _ _ (MA.al _) | with_reducible exact HS2.out _ _ _ _ _ _ _ ((MA.al _).drew) | with_reducible exact HS2.out _ _ _ _ _ _ _ (M0'.drew) | with_reducible exact HS2.out _ _ _ _ _ _ _ (M0'.drew.al _) | with_reducible exact HS2.out _ _ _ _ _ _ _ ((M0'.al _).drew) | with_reducible exact HS2.out _ _ _ _ _ _ _ ((M0'.drew.al _).al _) | with_reducible exact HS2.out _ _ _ _ _ _ _ (((M0'.al _).al _).drew) | with_reducible exact HS2.out _ _ _ _ _ _ _ (M0'.al _) | with_reducible exact HS2.out _ _ _ _ _ _ _ ((M0'.al _).al _))
                    refine anyT_take1 (i := 8) (v := ?v7) rfl (by kernel_rfl) (by kernel_rfl) (by kernel_rfl) rfl (fun _ _ _ h => h) (Or.inl ⟨by rfl, ?hy7⟩) ⟨?h1x7, ?h2x7⟩ ?rest7
                    case hy7 => (intro w hSw; (try dsimp only at hSw); go_simp; try with_reducible rfl)
                    case h1x7 => (refine HSP.out _ ?_; repeat (first | with_reducible exact gw | with_reducible exact GC | with_reducible exact GA | with_reducible refine Gr.drew ?_ | with_reducible refine Gr.alloc ?_ _ | with_reducible refine Gr.setCell ?_ hwaq _))
                    case h2x7 => (intro _; first | with_reducible exact HS2.out _ _ _ _ _ _ _ (MC) | with_reducible exact HS2.out _ _ _ _ _ _ _ (MC.drew) | with_reducible exact HS2.out _ _ _ _ _ _ _ (MA) | with_reducible exact HS2.out _ _ _ _ _ _ _ (MA.drew) | with_reducible exact HS2.out _ _ _ _ _ _ _ (MA.al _) | with_reducible exact HS2.out _ _ _ _ _ _ _ ((MA.al _).drew) | with_reducible exact HS2.out _ _ _ _ _ _ _ (M0'.drew) | with_reducible exact HS2.out _ _ _ _ _ _ _ (M0'.drew.al _) | with_reducible exact HS2.out _ _ _ _ _ _ _ ((M0'.al _).drew) | with_reducible exact HS2.out _ _ _ _ _ _ _ ((M0'.drew.al _).al _) | with_reducible exact HS2.out _ _ _ _ _ _ _ (((M0'.al _).al _).drew) | with_reducible exact HS2.out _ _ _ _ _ _ _ (M0'.al _) | with_reducible exact HS2.out _ _ _ _ _ _ _ ((M0'.al _).al _))
                    refine anyT_take1 (i := 9) (v := ?v8) rfl (by kernel_rfl) (by kernel_rfl) (by kernel_rfl) rfl (fun _ _ _ h => h) (Or.inl ⟨by rfl, ?hy8⟩) ⟨?h1x8, ?h2x8⟩ ?rest8
                    case hy8 => (intro w hSw; (try dsimp only at hSw); go_simp; try with_reducible rfl)
                    case h1x8 => (refine HSP.out _ ?_; repeat (first | with_reducible exact gw | with_reducible exact GC | with_reducible exact GA | with_reducible refine Gr.drew ?_ | with_reducible refine Gr.alloc ?_ _ | with_reducible refine Gr.setCell ?_ hwaq _))
                    case h2x8 => (intro _; first | with_reducible exact HS2.out _ _ _ _ _ _ _ (MC) | with_reducible exact HS2.out _ _ _ _ _ _ _ (MC.drew) | with_reducible exact HS2.out _ _ _ _ _ _ _ (MA) | with_reducible exact HS2.out _ _ _ _ _ _ _ (MA.drew) | with_reducible exact HS2.out _ _ _ _ _ _ _ (MA.al _) | with_reducible exact HS2.out _ _ _ _ _ _ _ ((MA.al _).drew) | with_reducible exact HS2.out _ _ _ _ _ _ _ (M0'.drew) | with_reducible exact HS2.out _ _ _ _ _ _ _ (M0'.drew.al _) | with_reducible exact HS2.out _ _ _ _ _ _ _ ((M0'.al _).drew) | with_reducible exact HS2.out _ _ _ _ _ _ _ ((M0'.drew.al _).al _) | with_reducible exact HS2.out _ _ _ _ _ _ _ (((M0'.al _).al _).drew) | with_reducible exact HS2.out _ _ _ _ _ _ _ (M0'.al _) | with_reducible exact HS2.out _ _ _ _ _ _ _ ((M0'.al _).al _))
                    refine anyT_take1 (i := 10) (v := ?v9) rfl (by kernel_rfl) (by kernel_rfl) (by kernel_rfl) rfl (fun _ _ _ h => h) (Or.inl ⟨by rfl, ?hy9⟩) ⟨?h1x9, ?h2x9⟩ ?rest9
                    case hy9 => (intro w hSw; (try dsimp only at hSw); go_simp; try with_reducible rfl)
                    case h1x9 => (refine HSP.out _ ?_; repeat (first | with_reducible exact gw | with_reducible exact GC | with_reducible exact GA | with_reducible refine Gr.drew ?_ | with_reducible refine Gr.alloc ?_ _ | with_reducible refine Gr.setCell ?_ hwaq _))
                    case h2x9 => (intro _; first | with_reducible exact HS2.out _ _ _ _ _ _ _ (MC) | with_reducible exact HS2.out _ _ _ _ _ _ _ (MC.drew) | with_reducible exact HS2.out _ _ _ _ _ _ _ (MA) | with_reducible exact HS2.out _ _ _ _ _ _ _ (MA.drew) | with_reducible exact HS2.out _ _ _ _ _ _ _ (MA.al _) | with_reducible exact HS2.out _ _ _ _ _ _ _ ((MA.al _).drew) | with_reducible exact HS2.out _ _ _ _ _ _ _ (M0'.drew) | with_reducible exact HS2.out _ _ _ _ _ _ _ (M0'.drew.al _) | with_reducible exact HS2.out _ _ _ _ _ _ _ ((M0'.al _).drew) | with_reducible exact HS2.out _ _ _ _ _ _ _ ((M0'.drew.al _).al _) | with_reducible exact HS2.out _ _ _ _ _ _ _ (((M0'.al _).al _).drew) | with_reducible exact HS2.out _ _ _ _ _ _ _ (M0'.al _) | with_reducible exact HS2.out _ _ _ _ _ _ _ ((M0'.al _).al _))
                    refine anyT_take1 (i := 11) (v := ?v10) rfl (by kernel_rfl) (by kernel_rfl) (by kernel_rfl) rfl (fun _ _ _ h => h) (Or.inl ⟨by rfl, ?hy10⟩) ⟨?h1x10, ?h2x10⟩ ?rest10
                    case hy10 => (intro w hSw; (try dsimp only at hSw); go_simp; try with_reducible rfl)
                    case h1x10 => (refine HSP.out _ ?_; repeat (first | with_reducible exact gw | with_reducible exact GC | with_reducible exact GA | with_reducible refine Gr.drew ?_ | with_reducible refine Gr.alloc ?_ _ | with_reducible refine Gr.setCell ?_ hwaq _))
                    case h2x10 => (intro _; first | with_reducible exact HS2.out _ _ _ _ _ _ _ (MC) | with_reducible exact HS2.out _ _ _ _ _ _ _ (MC.drew) | with_reducible exact HS2.out _ _ _ _ _ _ _ (MA) | with_reducible exact HS2.out _ _ _ _ _ _ _ (MA.drew) | with_reducible exact HS2.out _ _ _ _ _ _ _ (MA.al _) | with_reducible exact HS2.out _ _ _ _ _ _ _ ((MA.al _).drew) | with_reducible exact HS2.out _ _ _ _ _ _ _ (M0'.drew) | with_reducible exact HS2.out _ _ _ _ _ _ _ (M0'.drew.al _) | with_reducible exact HS2.out _ _ _ _ _ _ _ ((M0'.al _).drew) | with_reducible exact HS2.out _ _ _ _ _ _ _ ((M0'.drew.al _).al _) | with_reducible exact HS2.out _ _ _ _ _ _ _ (((M0'.al _).al _).drew) | with_reducible exact HS2.out _ _ _ _ _ _ _ (M0'.al _) | with_reducible exact HS2.out _ _ _ _ _ _ _ ((M0'.al _).al _))
                    refine anyT_ready (rs := [3, 12]) (by kernel_rfl) (by simp) ?_
                    refine AllT.cons rfl (fun K hK => ?_) (AllT.cons rfl (fun K hK => ?_) AllT.nil)
                    · go_simp
                      refine hK.out _ _ ?h1x11 ?h2x11 ?_
                      case h1x11 => (refine HSP.out _ ?_; repeat (first | with_reducible exact gw | with_reducible exact GC | with_reducible exact GA | with_reducible refine Gr.drew ?_ | with_reducible refine Gr.alloc ?_ _ | with_reducible refine Gr.setCell ?_ hwaq _))
                      case h2x11 => (intro _; first | with_reducible exact HS2.out _ _ _ _ _ _ _ (MC) | with_reducible exact HS2.out _ _ _ _ _ _ _ (MC.drew) | with_reducible exact HS2.out _ _ _ _ _ _ _ (MA) | with_reducible exact HS2.out _ _ _ _ _ _ _ (MA.drew) | with_reducible exact HS2.out _ _ _ _ _ _ _ (MA.al _) | with_reducible exact HS2.out _ _ _ _ _ _ _ ((MA.al _).drew) | with_reducible exact HS2.out _ _ _ _ _ _ _ (M0'.drew) | with_reducible exact HS2.out _ _ _ _ _ _ _ (M0'.drew.al _) | with_reducible exact HS2.out _ _ _ _ _ _ _ ((M0'.al _).drew) | with_reducible exact HS2.out _ _ _ _ _ _ _ ((M0'.drew.al _).al _) | with_reducible exact HS2.out _ _ _ _ _ _ _ (((M0'.al _).al _).drew) | with_reducible exact HS2.out _ _ _ _ _ _ _ (M0'.al _) | with_reducible exact HS2.out _ _ _ _ _ _ _ ((M0'.al _).al _))
                      clear hK K
                      refine anyT_ready (rs := [4, 12]) (by kernel_rfl) (by simp) ?_
                      refine AllT.cons rfl (fun K hK => ?_) (AllT.cons rfl (fun K hK => ?_) AllT.nil)
                      · (refine step_append_row (B := q + 1) (A0 := A1) (n0 := N) (cap0 := c1) (xs := F.map iV) (A := some ⟨wr.heap.size, 0, none⟩) (n := 1) (c := 1) (vs := [.int .i64 (m : Int)]) E.ints rfl (.tmp 67) (.tmp 69) rfl ?hd ?ho ?hx (row1 (T := 3) ?hr) (fun h => by cases h) (fun u hu => by simp at hu; subst hu; rfl) hb8 hbm ?hB ?_; (case hd => first | (simp [Act.eval]; done) | (unfold Act.put; simp [Act.eval]; done)); (case hx => first | (simp [Act.eval]; done) | (unfold Act.put; simp [Act.eval]; done)); (case ho => refine Md.own1 (w0 := w2) (q := q) (K := q + 1) (cs := TwA r o n A1 c1 N B1 d1 N) (X := .slice A1 N c1) (Y := .slice B1 N d1) (N := N) (M := N) (F := F) (G := G) ?_; (repeat (first | with_reducible exact M0' | with_reducible refine Md.drew ?_ | with_reducible refine Md.al ?_ _)); done); (case hr => (repeat (first | (with_reducible refine BlkAt ?_; simp; done) | with_reducible refine Blk.drew ?_ | with_reducible refine Blk.alloc ?_ _)); done); (case hB => refine Md.size (w0 := w2) (q := q) (K := q + 1) (cs := TwA r o n A1 c1 N B1 d1 N) (X := .slice A1 N c1) (Y := .slice B1 N d1) (N := N) (M := N) (F := F) (G := G) ?_ (Nat.le_refl _); (repeat (first | with_reducible exact M0' | with_reducible refine Md.drew ?_ | with_reducible refine Md.al ?_ _)); done); intro Aa ka wA oA hA; rw [iV_add] at oA; have MA : Md w2 q (q + 1) (TwA r o n A1 c1 N B1 d1 N) (.slice Aa (N + 1) ka) (.slice B1 N d1) (N + 1) (N) (F ++ [(m : Int)]) (G) wA := (by refine Md.app1 (w0 := w2) (q := q) (K := q + 1) (cs := TwA r o n A1 c1 N B1 d1 N) (X := .slice A1 N c1) (Y := .slice B1 N d1) (N := N) (M := N) (F := F) (G := G) ?_ oA hA; repeat (first | with_reducible exact M0' | with_reducible refine Md.drew ?_ | with_reducible refine Md.al ?_ _)); have GA : Gr wa wA := g2.trans MA.gr; obtain ⟨a0, a1, a2, a3, a4, a5⟩ := HC.out _ _ _ _ _ _ _ (MA); obtain ⟨ap0, ap1, ap2, ap3, ap4, ap5⟩ := HC.out _ _ _ _ _ _ _ (MA.al (.cells #[.string (bs sv)] 9)))
                        refine hK.out _ _ ?h1x12 ?h2x12 ?_
                        case h1x12 => (refine HSP.out _ ?_; repeat (first | with_reducible exact gw | with_reducible exact GC | with_reducible exact GA | with_reducible refine Gr.drew ?_ | with_reducible refine Gr.alloc ?_ _ | with_reducible refine Gr.setCell ?_ hwaq _))
                        case h2x12 => (intro _; first | with_reducible exact HS2.out _ _ _ _ _ _ _ (MC) | with_reducible exact HS2.out _ _ _ _ _ _ _ (MC.drew) | with_reducible exact HS2.out _ _ _ _ _ _ _ (MA) | with_reducible exact HS2.out _ _ _ _ _ _ _ (MA.drew) | with_reducible exact HS2.out _ _ _ _ _ _ _ (MA.al _) | with_reducible exact HS2.out _ _ _ _ _ _ _ ((MA.al _).drew) | with_reducible exact HS2.out _ _ _ _ _ _ _ (M0'.drew) | with_reducible exact HS2.out _ _ _ _ _ _ _ (M0'.drew.al _) | with_reducible exact HS2.out _ _ _ _ _ _ _ ((M0'.al _).drew) | with_reducible exact HS2.out _ _ _ _ _ _ _ ((M0'.drew.al _).al _) | with_reducible exact HS2.out _ _ _ _ _ _ _ (((M0'.al _).al _).drew) | with_reducible exact HS2.out _ _ _ _ _ _ _ (M0'.al _) | with_reducible exact HS2.out _ _ _ _ _ _ _ ((M0'.al _).al _))
                        clear hK K
                        refine anyT_take1 (i := 14) (v := ?v13) rfl (by kernel_rfl) (by kernel_rfl) (by kernel_rfl) rfl (fun _ _ _ h => h) (Or.inl ⟨by rfl, ?hy13⟩) ⟨?h1x13, ?h2x13⟩ ?rest13
                        case hy13 => (intro w hSw; (try dsimp only at hSw); go_simp; try with_reducible rfl)
                        case h1x13 => (refine HSP.out _ ?_; repeat (first | with_reducible exact gw | with_reducible exact GC | with_reducible exact GA | with_reducible refine Gr.drew ?_ | with_reducible refine Gr.alloc ?_ _ | with_reducible refine Gr.setCell ?_ hwaq _))
                        case h2x13 => (intro _; first | with_reducible exact HS2.out _ _ _ _ _ _ _ (MC) | with_reducible exact HS2.out _ _ _ _ _ _ _ (MC.drew) | with_reducible exact HS2.out _ _ _ _ _ _ _ (MA) | with_reducible exact HS2.out _ _ _ _ _ _ _ (MA.drew) | with_reducible exact HS2.out _ _ _ _ _ _ _ (MA.al _) | with_reducible exact HS2.out _ _ _ _ _ _ _ ((MA.al _).drew) | with_reducible exact HS2.out _ _ _ _ _ _ _ (M0'.drew) | with_reducible exact HS2.out _ _ _ _ _ _ _ (M0'.drew.al _) | with_reducible exact HS2.out _ _ _ _ _ _ _ ((M0'.al _).drew) | with_reducible exact HS2.out _ _ _ _ _ _ _ ((M0'.drew.al _).al _) | with_reducible exact HS2.out _ _ _ _ _ _ _ (((M0'.al _).al _).drew) | with_reducible exact HS2.out _ _ _ _ _ _ _ (M0'.al _) | with_reducible exact HS2.out _ _ _ _ _ _ _ ((M0'.al _).al _))
                        refine anyT_ready (rs := [12]) (by kernel_rfl) (by simp) ?_
                        refine AllT.cons rfl (fun K hK => ?_) AllT.nil
                        go_simp
                        refine hK.out _ _ ?h1x14 ?h2x14 ?_
                        case h1x14 => (refine HSP.out _ ?_; repeat (first | with_reducible exact gw | with_reducible exact GC | with_reducible exact GA | with_reducible refine Gr.drew ?_ | with_reducible refine Gr.alloc ?_ _ | with_reducible refine Gr.setCell ?_ hwaq _))
                        case h2x14 => (intro _; first | with_reducible exact HS2.out _ _ _ _ _ _ _ (MC) | with_reducible exact HS2.out _ _ _ _ _ _ _ (MC.drew) | with_reducible exact HS2.out _ _ _ _ _ _ _ (MA) | with_reducible exact HS2.out _ _ _ _ _ _ _ (MA.drew) | with_reducible exact HS2.out _ _ _ _ _ _ _ (MA.al _) | with_reducible exact HS2.out _ _ _ _ _ _ _ ((MA.al _).drew) | with_reducible exact HS2.out _ _ _ _ _ _ _ (M0'.drew) | with_reducible exact HS2.out _ _ _ _ _ _ _ (M0'.drew.al _) | with_reducible exact HS2.out _ _ _ _ _ _ _ ((M0'.al _).drew) | with_reducible exact HS2.out _ _ _ _ _ _ _ ((M0'.drew.al _).al _) | with_reducible exact HS2.out _ _ _ _ _ _ _ (((M0'.al _).al _).drew) | with_reducible exact HS2.out _ _ _ _ _ _ _ (M0'.al _) | with_reducible exact HS2.out _ _ _ _ _ _ _ ((M0'.al _).al _))
                        clear hK K
                        refine anyT_ready (rs := [13]) (by kernel_rfl) (by simp) ?_
                        refine AllT.cons rfl (fun K hK => ?_) AllT.nil
                        (refine step_append_row (B := q + 1) (A0 := B1) (n0 := N) (cap0 := d1) (xs := G.map strV) (A := some ⟨wA.heap.size, 0, none⟩) (n := 1) (c := 1) (vs := [.string (bs sv)]) E.str rfl (.tmp 72) (.tmp 78) rfl ?hd ?ho ?hx (row1 (T := 9) ?hr) (fun h => by cases h) (fun u hu => by simp at hu; subst hu; rfl) hb16 hbm ?hB ?_; (case hd => first | (simp [Act.eval]; done) | (unfold Act.put; simp [Act.eval]; done)); (case hx => first | (simp [Act.eval]; done) | (unfold Act.put; simp [Act.eval]; done)); (case ho => refine Md.own2 (w0 := w2) (q := q) (K := q + 1) (cs := TwA r o n A1 c1 N B1 d1 N) (X := .slice Aa (N + 1) ka) (Y := .slice B1 N d1) (N := N + 1) (M := N) (F := F ++ [(m : Int)]) (G := G) ?_; (repeat (first | with_reducible exact MA | with_reducible refine Md.drew ?_ | with_reducible refine Md.al ?_ _)); done); (case hr => (repeat (first | with_reducible exact PA | (with_reducible refine BlkAt ?_; simp; done) | with_reducible refine Blk.drew ?_ | with_reducible refine Blk.alloc ?_ _)); done); (case hB => refine Md.size (w0 := w2) (q := q) (K := q + 1) (cs := TwA r o n A1 c1 N B1 d1 N) (X := .slice Aa (N + 1) ka) (Y := .slice B1 N d1) (N := N + 1) (M := N) (F := F ++ [(m : Int)]) (G := G) ?_ (Nat.le_refl _); (repeat (first | with_reducible exact MA | with_reducible refine Md.drew ?_ | with_reducible refine Md.al ?_ _)); done); intro Bb kb wC oC hC; rw [sV_add] at oC; have MC : Md w2 q (q + 1) (TwA r o n A1 c1 N B1 d1 N) (.slice Aa (N + 1) ka) (.slice Bb (N + 1) kb) (N + 1) (N + 1) (F ++ [(m : Int)]) (G ++ [sv]) wC := (by refine Md.app2 (w0 := w2) (q := q) (K := q + 1) (cs := TwA r o n A1 c1 N B1 d1 N) (X := .slice Aa (N + 1) ka) (Y := .slice B1 N d1) (N := N + 1) (M := N) (F := F ++ [(m : Int)]) (G := G) ?_ oC hC; repeat (first | with_reducible exact MA | with_reducible refine Md.drew ?_ | with_reducible refine Md.al ?_ _)); have GC : Gr wa wC := g2.trans MC.gr; obtain ⟨c0, c1, c2, c3, c4, c5⟩ := HC.out _ _ _ _ _ _ _ (MC))
                        refine hK.out _ _ ?h1x15 ?h2x15 ?_
                        case h1x15 => (refine HSP.out _ ?_; repeat (first | with_reducible exact gw | with_reducible exact GC | with_reducible exact GA | with_reducible refine Gr.drew ?_ | with_reducible refine Gr.alloc ?_ _ | with_reducible refine Gr.setCell ?_ hwaq _))
                        case h2x15 => (intro _; first | with_reducible exact HS2.out _ _ _ _ _ _ _ (MC) | with_reducible exact HS2.out _ _ _ _ _ _ _ (MC.drew) | with_reducible exact HS2.out _ _ _ _ _ _ _ (MA) | with_reducible exact HS2.out _ _ _ _ _ _ _ (MA.drew) | with_reducible exact HS2.out _ _ _ _ _ _ _ (MA.al _) | with_reducible exact HS2.out _ _ _ _ _ _ _ ((MA.al _).drew) | with_reducible exact HS2.out _ _ _ _ _ _ _ (M0'.drew) | with_reducible exact HS2.out _ _ _ _ _ _ _ (M0'.drew.al _) | with_reducible exact HS2.out _ _ _ _ _ _ _ ((M0'.al _).drew) | with_reducible exact HS2.out _ _ _ _ _ _ _ ((M0'.drew.al _).al _) | with_reducible exact HS2.out _ _ _ _ _ _ _ (((M0'.al _).al _).drew) | with_reducible exact HS2.out _ _ _ _ _ _ _ (M0'.al _) | with_reducible exact HS2.out _ _ _ _ _ _ _ ((M0'.al _).al _))
                        clear hK K
                        refine anyT_ready (rs := [15]) (by kernel_rfl) (by simp) ?_
                        refine AllT.cons rfl (fun K hK => ?_) AllT.nil
                        go_simp
                        refine hK.out _ _ ?h1x16 ?h2x16 ?_
                        case h1x16 => (refine HSP.out _ ?_; repeat (first | with_reducible exact gw | with_reducible exact GC | with_reducible exact GA | with_reducible refine Gr.drew ?_ | with_reducible refine Gr.alloc ?_ _ | with_reducible refine Gr.setCell ?_ hwaq _))
                        case h2x16 => exact fun h => (notNone h (by kernel_rfl)).elim
                        clear hK K
                        refine anyT_take1 (i := 16) (v := ?v17) rfl (by kernel_rfl) (by kernel_rfl) (by kernel_rfl) rfl (fun _ _ _ h => h) (Or.inl ⟨by rfl, ?hy17⟩) ⟨?h1x17, ?h2x17⟩ ?rest17
                        case hy17 => (intro w hSw; (try dsimp only at hSw); go_simp; try with_reducible rfl)
                        case h1x17 => (refine HSP.out _ ?_; repeat (first | with_reducible exact gw | with_reducible exact GC | with_reducible exact GA | with_reducible refine Gr.drew ?_ | with_reducible refine Gr.alloc ?_ _ | with_reducible refine Gr.setCell ?_ hwaq _))
                        case h2x17 => exact fun h => (notNone h (by kernel_rfl)).elim
                        refine anyT_ready (rs := [17]) (by kernel_rfl) (by simp) ?_
                        refine AllT.cons rfl (fun K hK => ?_) AllT.nil
                        go_simp
                        refine hK.out _ _ ?h1x18 ?h2x18 ?_
                        case h1x18 => (refine HSP.out _ ?_; repeat (first | with_reducible exact gw | with_reducible exact GC | with_reducible exact GA | with_reducible refine Gr.drew ?_ | with_reducible refine Gr.alloc ?_ _ | with_reducible refine Gr.setCell ?_ hwaq _))
                        case h2x18 => exact fun h => (notNone h (by kernel_rfl)).elim
                        clear hK K
                        refine anyT_done (by kernel_rfl) ?_ _
                        go_wp2_with fail
                        go_roundg (gk - 1)
                        case rel => exact ⟨i + 1, by go_num, by omega, HLT.out, sec ⟨N + 1, F ++ [(m : Int)], G ++ [sv], HH.out, HW1'.out, _, _, _, _, (MC.st 3 _).st 4 _⟩⟩
                        case measure => have := HLT.out; omega
                      · go_simp
                        refine hK.out _ _ ?h1x19 ?h2x19 ?_
                        case h1x19 => (refine HSP.out _ ?_; repeat (first | with_reducible exact gw | with_reducible exact GC | with_reducible exact GA | with_reducible refine Gr.drew ?_ | with_reducible refine Gr.alloc ?_ _ | with_reducible refine Gr.setCell ?_ hwaq _))
                        case h2x19 => (intro _; first | with_reducible exact HS2.out _ _ _ _ _ _ _ (MC) | with_reducible exact HS2.out _ _ _ _ _ _ _ (MC.drew) | with_reducible exact HS2.out _ _ _ _ _ _ _ (MA) | with_reducible exact HS2.out _ _ _ _ _ _ _ (MA.drew) | with_reducible exact HS2.out _ _ _ _ _ _ _ (MA.al _) | with_reducible exact HS2.out _ _ _ _ _ _ _ ((MA.al _).drew) | with_reducible exact HS2.out _ _ _ _ _ _ _ (M0'.drew) | with_reducible exact HS2.out _ _ _ _ _ _ _ (M0'.drew.al _) | with_reducible exact HS2.out _ _ _ _ _ _ _ ((M0'.al _).drew) | with_reducible exact HS2.out _ _ _ _ _ _ _ ((M0'.drew.al _).al _) | with_reducible exact HS2.out _ _ _ _ _ _ _ (((M0'.al _).al _).drew) | with_reducible exact HS2.out _ _ _ _ _ _ _ (M0'.al _) | with_reducible exact HS2.out _ _ _ _ _ _ _ ((M0'.al _).al _))
                        clear hK K
                        refine anyT_ready (rs := [4]) (by kernel_rfl) (by simp) ?_
                        refine AllT.cons rfl (fun K hK => ?_) AllT.nil
                        (refine step_append_row (B := q + 1) (A0 := A1) (n0 := N) (cap0 := c1) (xs := F.map iV) (A := some ⟨wr.heap.size, 0, none⟩) (n := 1) (c := 1) (vs := [.int .i64 (m : Int)]) E.ints rfl (.tmp 67) (.tmp 69) rfl ?hd ?ho ?hx (row1 (T := 3) ?hr) (fun h => by cases h) (fun u hu => by simp at hu; subst hu; rfl) hb8 hbm ?hB ?_; (case hd => first | (simp [Act.eval]; done) | (unfold Act.put; simp [Act.eval]; done)); (case hx => first | (simp [Act.eval]; done) | (unfold Act.put; simp [Act.eval]; done)); (case ho => refine Md.own1 (w0 := w2) (q := q) (K := q + 1) (cs := TwA r o n A1 c1 N B1 d1 N) (X := .slice A1 N c1) (Y := .slice B1 N d1) (N := N) (M := N) (F := F) (G := G) ?_; (repeat (first | with_reducible exact M0' | with_reducible refine Md.drew ?_ | with_reducible refine Md.al ?_ _)); done); (case hr => (repeat (first | (with_reducible refine BlkAt ?_; simp; done) | with_reducible refine Blk.drew ?_ | with_reducible refine Blk.alloc ?_ _)); done); (case hB => refine Md.size (w0 := w2) (q := q) (K := q + 1) (cs := TwA r o n A1 c1 N B1 d1 N) (X := .slice A1 N c1) (Y := .slice B1 N d1) (N := N) (M := N) (F := F) (G := G) ?_ (Nat.le_refl _); (repeat (first | with_reducible exact M0' | with_reducible refine Md.drew ?_ | with_reducible refine Md.al ?_ _)); done); intro Aa ka wA oA hA; rw [iV_add] at oA; have MA : Md w2 q (q + 1) (TwA r o n A1 c1 N B1 d1 N) (.slice Aa (N + 1) ka) (.slice B1 N d1) (N + 1) (N) (F ++ [(m : Int)]) (G) wA := (by refine Md.app1 (w0 := w2) (q := q) (K := q + 1) (cs := TwA r o n A1 c1 N B1 d1 N) (X := .slice A1 N c1) (Y := .slice B1 N d1) (N := N) (M := N) (F := F) (G := G) ?_ oA hA; repeat (first | with_reducible exact M0' | with_reducible refine Md.drew ?_ | with_reducible refine Md.al ?_ _)); have GA : Gr wa wA := g2.trans MA.gr; obtain ⟨a0, a1, a2, a3, a4, a5⟩ := HC.out _ _ _ _ _ _ _ (MA); obtain ⟨ap0, ap1, ap2, ap3, ap4, ap5⟩ := HC.out _ _ _ _ _ _ _ (MA.al (.cells #[.string (bs sv)] 9)); have PA : Blk wA (wr.heap.size + 1) 9 #[.string (bs sv)] := (by refine Md.keep1 (w0 := w2) (q := q) (K := q + 1) (cs := TwA r o n A1 c1 N B1 d1 N) (X := .slice A1 N c1) (Y := .slice B1 N d1) (N := N) (M := N) (F := F) (G := G) ?_ ?_ (by decide) hA; (focus (repeat (first | with_reducible exact M0' | with_reducible refine Md.drew ?_ | with_reducible refine Md.al ?_ _))); (focus (repeat (first | (with_reducible refine BlkAt ?_; simp; done) | with_reducible refine Blk.drew ?_ | with_reducible refine Blk.alloc ?_ _)))))
                        refine hK.out _ _ ?h1x20 ?h2x20 ?_
                        case h1x20 => (refine HSP.out _ ?_; repeat (first | with_reducible exact gw | with_reducible exact GC | with_reducible exact GA | with_reducible refine Gr.drew ?_ | with_reducible refine Gr.alloc ?_ _ | with_reducible refine Gr.setCell ?_ hwaq _))
                        case h2x20 => (intro _; first | with_reducible exact HS2.out _ _ _ _ _ _ _ (MC) | with_reducible exact HS2.out _ _ _ _ _ _ _ (MC.drew) | with_reducible exact HS2.out _ _ _ _ _ _ _ (MA) | with_reducible exact HS2.out _ _ _ _ _ _ _ (MA.drew) | with_reducible exact HS2.out _ _ _ _ _ _ _ (MA.al _) | with_reducible exact HS2.out _ _ _ _ _ _ _ ((MA.al _).drew) | with_reducible exact HS2.out _ _ _ _ _ _ _ (M0'.drew) | with_reducible exact HS2.out _ _ _ _ _ _ _ (M0'.drew.al _) | with_reducible exact HS2.out _ _ _ _ _ _ _ ((M0'.al _).drew) | with_reducible exact HS2.out _ _ _ _ _ _ _ ((M0'.drew.al _).al _) | with_reducible exact HS2.out _ _ _ _ _ _ _ (((M0'.al _).al _).drew) | with_reducible exact HS2.out _ _ _ _ _ _ _ (M0'.al _) | with_reducible exact HS2.out _ _ _ _ _ _ _ ((M0'.al _).al _))
                        clear hK K
                        refine anyT_take1 (i := 14) (v := ?v21) rfl (by kernel_rfl) (by kernel_rfl) (by kernel_rfl) rfl (fun _ _ _ h => h) (Or.inl ⟨by rfl, ?hy21⟩) ⟨?h1x21, ?h2x21⟩ ?rest21
                        case hy21 => (intro w hSw; (try dsimp only at hSw); go_simp; try with_reducible rfl)
                        case h1x21 => (refine HSP.out _ ?_; repeat (first | with_reducible exact gw | with_reducible exact GC | with_reducible exact GA | with_reducible refine Gr.drew ?_ | with_reducible refine Gr.alloc ?_ _ | with_reducible refine Gr.setCell ?_ hwaq _))
                        case h2x21 => (intro _; first | with_reducible exact HS2.out _ _ _ _ _ _ _ (MC) | with_reducible exact HS2.out _ _ _ _ _ _ _ (MC.drew) | with_reducible exact HS2.out _ _ _ _ _ _ _ (MA) | with_reducible exact HS2.out _ _ _ _ _ _ _ (MA.drew) | with_reducible exact HS2.out _ _ _ _ _ _ _ (MA.al _) | with_reducible exact HS2.out _ _ _ _ _ _ _ ((MA.al _).drew) | with_reducible exact HS2.out _ _ _ _ _ _ _ (M0'.drew) | with_reducible exact HS2.out _ _ _ _ _ _ _ (M0'.drew.al _) | with_reducible exact HS2.out _ _ _ _ _ _ _ ((M0'.al _).drew) | with_reducible exact HS2.out _ _ _ _ _ _ _ ((M0'.drew.al _).al _) | with_reducible exact HS2.out _ _ _ _ _ _ _ (((M0'.al _).al _).drew) | with_reducible exact HS2.out _ _ _ _ _ _ _ (M0'.al _) | with_reducible exact HS2.out _ _ _ _ _ _ _ ((M0'.al _).al _))
                        refine anyT_ready (rs := [13]) (by kernel_rfl) (by simp) ?_
                        refine AllT.cons rfl (fun K hK => ?_) AllT.nil
                        (refine step_append_row (B := q + 1) (A0 := B1) (n0 := N) (cap0 := d1) (xs := G.map strV) (A := some ⟨wr.heap.size + 1, 0, none⟩) (n := 1) (c := 1) (vs := [.string (bs sv)]) E.str rfl (.tmp 72) (.tmp 78) rfl ?hd ?ho ?hx (row1 (T := 9) ?hr) (fun h => by cases h) (fun u hu => by simp at hu; subst hu; rfl) hb16 hbm ?hB ?_; (case hd => first | (simp [Act.eval]; done) | (unfold Act.put; simp [Act.eval]; done)); (case hx => first | (simp [Act.eval]; done) | (unfold Act.put; simp [Act.eval]; done)); (case ho => refine Md.own2 (w0 := w2) (q := q) (K := q + 1) (cs := TwA r o n A1 c1 N B1 d1 N) (X := .slice Aa (N + 1) ka) (Y := .slice B1 N d1) (N := N + 1) (M := N) (F := F ++ [(m : Int)]) (G := G) ?_; (repeat (first | with_reducible exact MA | with_reducible refine Md.drew ?_ | with_reducible refine Md.al ?_ _)); done); (case hr => (repeat (first | with_reducible exact PA | (with_reducible refine BlkAt ?_; simp; done) | with_reducible refine Blk.drew ?_ | with_reducible refine Blk.alloc ?_ _)); done); (case hB => refine Md.size (w0 := w2) (q := q) (K := q + 1) (cs := TwA r o n A1 c1 N B1 d1 N) (X := .slice Aa (N + 1) ka) (Y := .slice B1 N d1) (N := N + 1) (M := N) (F := F ++ [(m : Int)]) (G := G) ?_ (Nat.le_refl _); (repeat (first | with_reducible exact MA | with_reducible refine Md.drew ?_ | with_reducible refine Md.al ?_ _)); done); intro Bb kb wC oC hC; rw [sV_add] at oC; have MC : Md w2 q (q + 1) (TwA r o n A1 c1 N B1 d1 N) (.slice Aa (N + 1) ka) (.slice Bb (N + 1) kb) (N + 1) (N + 1) (F ++ [(m : Int)]) (G ++ [sv]) wC := (by refine Md.app2 (w0 := w2) (q := q) (K := q + 1) (cs := TwA r o n A1 c1 N B1 d1 N) (X := .slice Aa (N + 1) ka) (Y := .slice B1 N d1) (N := N + 1) (M := N) (F := F ++ [(m : Int)]) (G := G) ?_ oC hC; repeat (first | with_reducible exact MA | with_reducible refine Md.drew ?_ | with_reducible refine Md.al ?_ _)); have GC : Gr wa wC := g2.trans MC.gr; obtain ⟨c0, c1, c2, c3, c4, c5⟩ := HC.out _ _ _ _ _ _ _ (MC))
                        refine hK.out _ _ ?h1x22 ?h2x22 ?_
                        case h1x22 => (refine HSP.out _ ?_; repeat (first | with_reducible exact gw | with_reducible exact GC | with_reducible exact GA | with_reducible refine Gr.drew ?_ | with_reducible refine Gr.alloc ?_ _ | with_reducible refine Gr.setCell ?_ hwaq _))
                        case h2x22 => (intro _; first | with_reducible exact HS2.out _ _ _ _ _ _ _ (MC) | with_reducible exact HS2.out _ _ _ _ _ _ _ (MC.drew) | with_reducible exact HS2.out _ _ _ _ _ _ _ (MA) | with_reducible exact HS2.out _ _ _ _ _ _ _ (MA.drew) | with_reducible exact HS2.out _ _ _ _ _ _ _ (MA.al _) | with_reducible exact HS2.out _ _ _ _ _ _ _ ((MA.al _).drew) | with_reducible exact HS2.out _ _ _ _ _ _ _ (M0'.drew) | with_reducible exact HS2.out _ _ _ _ _ _ _ (M0'.drew.al _) | with_reducible exact HS2.out _ _ _ _ _ _ _ ((M0'.al _).drew) | with_reducible exact HS2.out _ _ _ _ _ _ _ ((M0'.drew.al _).al _) | with_reducible exact HS2.out _ _ _ _ _ _ _ (((M0'.al _).al _).drew) | with_reducible exact HS2.out _ _ _ _ _ _ _ (M0'.al _) | with_reducible exact HS2.out _ _ _ _ _ _ _ ((M0'.al _).al _))
                        clear hK K
                        refine anyT_ready (rs := [15]) (by kernel_rfl) (by simp) ?_
                        refine AllT.cons rfl (fun K hK => ?_) AllT.nil
                        go_simp
                        refine hK.out _ _ ?h1x23 ?h2x23 ?_
                        case h1x23 => (refine HSP.out _ ?_; repeat (first | with_reducible exact gw | with_reducible exact GC | with_reducible exact GA | with_reducible refine Gr.drew ?_ | with_reducible refine Gr.alloc ?_ _ | with_reducible refine Gr.setCell ?_ hwaq _))
                        case h2x23 => exact fun h => (notNone h (by kernel_rfl)).elim
                        clear hK K
                        refine anyT_take1 (i := 16) (v := ?v24) rfl (by kernel_rfl) (by kernel_rfl) (by kernel_rfl) rfl (fun _ _ _ h => h) (Or.inl ⟨by rfl, ?hy24⟩) ⟨?h1x24, ?h2x24⟩ ?rest24
                        case hy24 => (intro w hSw; (try dsimp only at hSw); go_simp; try with_reducible rfl)
                        case h1x24 => (refine HSP.out _ ?_; repeat (first | with_reducible exact gw | with_reducible exact GC | with_reducible exact GA | with_reducible refine Gr.drew ?_ | with_reducible refine Gr.alloc ?_ _ | with_reducible refine Gr.setCell ?_ hwaq _))
                        case h2x24 => exact fun h => (notNone h (by kernel_rfl)).elim
                        refine anyT_ready (rs := [17]) (by kernel_rfl) (by simp) ?_
                        refine AllT.cons rfl (fun K hK => ?_) AllT.nil
                        go_simp
                        refine hK.out _ _ ?h1x25 ?h2x25 ?_
                        case h1x25 => (refine HSP.out _ ?_; repeat (first | with_reducible exact gw | with_reducible exact GC | with_reducible exact GA | with_reducible refine Gr.drew ?_ | with_reducible refine Gr.alloc ?_ _ | with_reducible refine Gr.setCell ?_ hwaq _))
                        case h2x25 => exact fun h => (notNone h (by kernel_rfl)).elim
                        clear hK K
                        refine anyT_done (by kernel_rfl) ?_ _
                        go_wp2_with fail
                        go_roundg (gk - 1)
                        case rel => exact ⟨i + 1, by go_num, by omega, HLT.out, sec ⟨N + 1, F ++ [(m : Int)], G ++ [sv], HH.out, HW1'.out, _, _, _, _, (MC.st 3 _).st 4 _⟩⟩
                        case measure => have := HLT.out; omega
                    · go_simp
                      refine hK.out _ _ ?h1x26 ?h2x26 ?_
                      case h1x26 => (refine HSP.out _ ?_; repeat (first | with_reducible exact gw | with_reducible exact GC | with_reducible exact GA | with_reducible refine Gr.drew ?_ | with_reducible refine Gr.alloc ?_ _ | with_reducible refine Gr.setCell ?_ hwaq _))
                      case h2x26 => (intro _; first | with_reducible exact HS2.out _ _ _ _ _ _ _ (MC) | with_reducible exact HS2.out _ _ _ _ _ _ _ (MC.drew) | with_reducible exact HS2.out _ _ _ _ _ _ _ (MA) | with_reducible exact HS2.out _ _ _ _ _ _ _ (MA.drew) | with_reducible exact HS2.out _ _ _ _ _ _ _ (MA.al _) | with_reducible exact HS2.out _ _ _ _ _ _ _ ((MA.al _).drew) | with_reducible exact HS2.out _ _ _ _ _ _ _ (M0'.drew) | with_reducible exact HS2.out _ _ _ _ _ _ _ (M0'.drew.al _) | with_reducible exact HS2.out _ _ _ _ _ _ _ ((M0'.al _).drew) | with_reducible exact HS2.out _ _ _ _ _ _ _ ((M0'.drew.al _).al _) | with_reducible exact HS2.out _ _ _ _ _ _ _ (((M0'.al _).al _).drew) | with_reducible exact HS2.out _ _ _ _ _ _ _ (M0'.al _) | with_reducible exact HS2.out _ _ _ _ _ _ _ ((M0'.al _).al _))
                      clear hK K
                      refine anyT_ready (rs := [3]) (by kernel_rfl) (by simp) ?_
                      refine AllT.cons rfl (fun K hK => ?_) AllT.nil
                      go_simp
                      refine hK.out _ _ ?h1x27 ?h2x27 ?_
                      case h1x27 => (refine HSP.out _ ?_; repeat (first | with_reducible exact gw | with_reducible exact GC | with_reducible exact GA | with_reducible refine Gr.drew ?_ | with_reducible refine Gr.alloc ?_ _ | with_reducible refine Gr.setCell ?_ hwaq _))
                      case h2x27 => (intro _; first | with_reducible exact HS2.out _ _ _ _ _ _ _ (MC) | with_reducible exact HS2.out _ _ _ _ _ _ _ (MC.drew) | with_reducible exact HS2.out _ _ _ _ _ _ _ (MA) | with_reducible exact HS2.out _ _ _ _ _ _ _ (MA.drew) | with_reducible exact HS2.out _ _ _ _ _ _ _ (MA.al _) | with_reducible exact HS2.out _ _ _ _ _ _ _ ((MA.al _).drew) | with_reducible exact HS2.out _ _ _ _ _ _ _ (M0'.drew) | with_reducible exact HS2.out _ _ _ _ _ _ _ (M0'.drew.al _) | with_reducible exact HS2.out _ _ _ _ _ _ _ ((M0'.al _).drew) | with_reducible exact HS2.out _ _ _ _ _ _ _ ((M0'.drew.al _).al _) | with_reducible exact HS2.out _ _ _ _ _ _ _ (((M0'.al _).al _).drew) | with_reducible exact HS2.out _ _ _ _ _ _ _ (M0'.al _) | with_reducible exact HS2.out _ _ _ _ _ _ _ ((M0'.al _).al _))
                      clear hK K
                      refine anyT_ready (rs := [4]) (by kernel_rfl) (by simp) ?_
                      refine AllT.cons rfl (fun K hK => ?_) AllT.nil
                      (refine step_append_row (B := q + 1) (A0 := A1) (n0 := N) (cap0 := c1) (xs := F.map iV) (A := some ⟨wr.heap.size + 1, 0, none⟩) (n := 1) (c := 1) (vs := [.int .i64 (m : Int)]) E.ints rfl (.tmp 67) (.tmp 69) rfl ?hd ?ho ?hx (row1 (T := 3) ?hr) (fun h => by cases h) (fun u hu => by simp at hu; subst hu; rfl) hb8 hbm ?hB ?_; (case hd => first | (simp [Act.eval]; done) | (unfold Act.put; simp [Act.eval]; done)); (case hx => first | (simp [Act.eval]; done) | (unfold Act.put; simp [Act.eval]; done)); (case ho => refine Md.own1 (w0 := w2) (q := q) (K := q + 1) (cs := TwA r o n A1 c1 N B1 d1 N) (X := .slice A1 N c1) (Y := .slice B1 N d1) (N := N) (M := N) (F := F) (G := G) ?_; (repeat (first | with_reducible exact M0' | with_reducible refine Md.drew ?_ | with_reducible refine Md.al ?_ _)); done); (case hr => (repeat (first | (with_reducible refine BlkAt ?_; simp; done) | with_reducible refine Blk.drew ?_ | with_reducible refine Blk.alloc ?_ _)); done); (case hB => refine Md.size (w0 := w2) (q := q) (K := q + 1) (cs := TwA r o n A1 c1 N B1 d1 N) (X := .slice A1 N c1) (Y := .slice B1 N d1) (N := N) (M := N) (F := F) (G := G) ?_ (Nat.le_refl _); (repeat (first | with_reducible exact M0' | with_reducible refine Md.drew ?_ | with_reducible refine Md.al ?_ _)); done); intro Aa ka wA oA hA; rw [iV_add] at oA; have MA : Md w2 q (q + 1) (TwA r o n A1 c1 N B1 d1 N) (.slice Aa (N + 1) ka) (.slice B1 N d1) (N + 1) (N) (F ++ [(m : Int)]) (G) wA := (by refine Md.app1 (w0 := w2) (q := q) (K := q + 1) (cs := TwA r o n A1 c1 N B1 d1 N) (X := .slice A1 N c1) (Y := .slice B1 N d1) (N := N) (M := N) (F := F) (G := G) ?_ oA hA; repeat (first | with_reducible exact M0' | with_reducible refine Md.drew ?_ | with_reducible refine Md.al ?_ _)); have GA : Gr wa wA := g2.trans MA.gr; obtain ⟨a0, a1, a2, a3, a4, a5⟩ := HC.out _ _ _ _ _ _ _ (MA); obtain ⟨ap0, ap1, ap2, ap3, ap4, ap5⟩ := HC.out _ _ _ _ _ _ _ (MA.al (.cells #[.string (bs sv)] 9)); have PA : Blk wA (wr.heap.size) 9 #[.string (bs sv)] := (by refine Md.keep1 (w0 := w2) (q := q) (K := q + 1) (cs := TwA r o n A1 c1 N B1 d1 N) (X := .slice A1 N c1) (Y := .slice B1 N d1) (N := N) (M := N) (F := F) (G := G) ?_ ?_ (by decide) hA; (focus (repeat (first | with_reducible exact M0' | with_reducible refine Md.drew ?_ | with_reducible refine Md.al ?_ _))); (focus (repeat (first | (with_reducible refine BlkAt ?_; simp; done) | with_reducible refine Blk.drew ?_ | with_reducible refine Blk.alloc ?_ _)))))
                      refine hK.out _ _ ?h1x28 ?h2x28 ?_
                      case h1x28 => (refine HSP.out _ ?_; repeat (first | with_reducible exact gw | with_reducible exact GC | with_reducible exact GA | with_reducible refine Gr.drew ?_ | with_reducible refine Gr.alloc ?_ _ | with_reducible refine Gr.setCell ?_ hwaq _))
                      case h2x28 => (intro _; first | with_reducible exact HS2.out _ _ _ _ _ _ _ (MC) | with_reducible exact HS2.out _ _ _ _ _ _ _ (MC.drew) | with_reducible exact HS2.out _ _ _ _ _ _ _ (MA) | with_reducible exact HS2.out _ _ _ _ _ _ _ (MA.drew) | with_reducible exact HS2.out _ _ _ _ _ _ _ (MA.al _) | with_reducible exact HS2.out _ _ _ _ _ _ _ ((MA.al _).drew) | with_reducible exact HS2.out _ _ _ _ _ _ _ (M0'.drew) | with_reducible exact HS2.out _ _ _ _ _ _ _ (M0'.drew.al _) | with_reducible exact HS2.out _ _ _ _ _ _ _ ((M0'.al _).drew) | with_reducible exact HS2.out _ _ _ _ _ _ _ ((M0'.drew.al _).al _) | with_reducible exact HS2.out _ _ _ _ _ _ _ (((M0'.al _).al _).drew) | with_reducible exact HS2.out _ _ _ _ _ _ _ (M0'.al _) | with_reducible exact HS2.out _ _ _ _ _ _ _ ((M0'.al _).al _))
                      clear hK K
                      refine anyT_take1 (i := 14) (v := ?v29) rfl (by kernel_rfl) (by kernel_rfl) (by kernel_rfl) rfl (fun _ _ _ h => h) (Or.inl ⟨by rfl, ?hy29⟩) ⟨?h1x29, ?h2x29⟩ ?rest29
                      case hy29 => (intro w hSw; (try dsimp only at hSw); go_simp; try with_reducible rfl)
                      case h1x29 => (refine HSP.out _ ?_; repeat (first | with_reducible exact gw | with_reducible exact GC | with_reducible exact GA | with_reducible refine Gr.drew ?_ | with_reducible refine Gr.alloc ?_ _ | with_reducible refine Gr.setCell ?_ hwaq _))
                      case h2x29 => (intro _; first | with_reducible exact HS2.out _ _ _ _ _ _ _ (MC) | with_reducible exact HS2.out _ _ _ _ _ _ _ (MC.drew) | with_reducible exact HS2.out _ _ _ _ _ _ _ (MA) | with_reducible exact HS2.out _ _ _ _ _ _ _ (MA.drew) | with_reducible exact HS2.out _ _ _ _ _ _ _ (MA.al _) | with_reducible exact HS2.out _ _ _ _ _ _ _ ((MA.al _).drew) | with_reducible exact HS2.out _ _ _ _ _ _ _ (M0'.drew) | with_reducible exact HS2.out _ _ _ _ _ _ _ (M0'.drew.al _) | with_reducible exact HS2.out _ _ _ _ _ _ _ ((M0'.al _).drew) | with_reducible exact HS2.out _ _ _ _ _ _ _ ((M0'.drew.al _).al _) | with_reducible exact HS2.out _ _ _ _ _ _ _ (((M0'.al _).al _).drew) | with_reducible exact HS2.out _ _ _ _ _ _ _ (M0'.al _) | with_reducible exact HS2.out _ _ _ _ _ _ _ ((M0'.al _).al _))
                      refine anyT_ready (rs := [13]) (by kernel_rfl) (by simp) ?_
                      refine AllT.cons rfl (fun K hK => ?_) AllT.nil
                      (refine step_append_row (B := q + 1) (A0 := B1) (n0 := N) (cap0 := d1) (xs := G.map strV) (A := some ⟨wr.heap.size, 0, none⟩) (n := 1) (c := 1) (vs := [.string (bs sv)]) E.str rfl (.tmp 72) (.tmp 78) rfl ?hd ?ho ?hx (row1 (T := 9) ?hr) (fun h => by cases h) (fun u hu => by simp at hu; subst hu; rfl) hb16 hbm ?hB ?_; (case hd => first | (simp [Act.eval]; done) | (unfold Act.put; simp [Act.eval]; done)); (case hx => first | (simp [Act.eval]; done) | (unfold Act.put; simp [Act.eval]; done)); (case ho => refine Md.own2 (w0 := w2) (q := q) (K := q + 1) (cs := TwA r o n A1 c1 N B1 d1 N) (X := .slice Aa (N + 1) ka) (Y := .slice B1 N d1) (N := N + 1) (M := N) (F := F ++ [(m : Int)]) (G := G) ?_; (repeat (first | with_reducible exact MA | with_reducible refine Md.drew ?_ | with_reducible refine Md.al ?_ _)); done); (case hr => (repeat (first | with_reducible exact PA | (with_reducible refine BlkAt ?_; simp; done) | with_reducible refine Blk.drew ?_ | with_reducible refine Blk.alloc ?_ _)); done); (case hB => refine Md.size (w0 := w2) (q := q) (K := q + 1) (cs := TwA r o n A1 c1 N B1 d1 N) (X := .slice Aa (N + 1) ka) (Y := .slice B1 N d1) (N := N + 1) (M := N) (F := F ++ [(m : Int)]) (G := G) ?_ (Nat.le_refl _); (repeat (first | with_reducible exact MA | with_reducible refine Md.drew ?_ | with_reducible refine Md.al ?_ _)); done); intro Bb kb wC oC hC; rw [sV_add] at oC; have MC : Md w2 q (q + 1) (TwA r o n A1 c1 N B1 d1 N) (.slice Aa (N + 1) ka) (.slice Bb (N + 1) kb) (N + 1) (N + 1) (F ++ [(m : Int)]) (G ++ [sv]) wC := (by refine Md.app2 (w0 := w2) (q := q) (K := q + 1) (cs := TwA r o n A1 c1 N B1 d1 N) (X := .slice Aa (N + 1) ka) (Y := .slice B1 N d1) (N := N + 1) (M := N) (F := F ++ [(m : Int)]) (G := G) ?_ oC hC; repeat (first | with_reducible exact MA | with_reducible refine Md.drew ?_ | with_reducible refine Md.al ?_ _)); have GC : Gr wa wC := g2.trans MC.gr; obtain ⟨c0, c1, c2, c3, c4, c5⟩ := HC.out _ _ _ _ _ _ _ (MC))
                      refine hK.out _ _ ?h1x30 ?h2x30 ?_
                      case h1x30 => (refine HSP.out _ ?_; repeat (first | with_reducible exact gw | with_reducible exact GC | with_reducible exact GA | with_reducible refine Gr.drew ?_ | with_reducible refine Gr.alloc ?_ _ | with_reducible refine Gr.setCell ?_ hwaq _))
                      case h2x30 => (intro _; first | with_reducible exact HS2.out _ _ _ _ _ _ _ (MC) | with_reducible exact HS2.out _ _ _ _ _ _ _ (MC.drew) | with_reducible exact HS2.out _ _ _ _ _ _ _ (MA) | with_reducible exact HS2.out _ _ _ _ _ _ _ (MA.drew) | with_reducible exact HS2.out _ _ _ _ _ _ _ (MA.al _) | with_reducible exact HS2.out _ _ _ _ _ _ _ ((MA.al _).drew) | with_reducible exact HS2.out _ _ _ _ _ _ _ (M0'.drew) | with_reducible exact HS2.out _ _ _ _ _ _ _ (M0'.drew.al _) | with_reducible exact HS2.out _ _ _ _ _ _ _ ((M0'.al _).drew) | with_reducible exact HS2.out _ _ _ _ _ _ _ ((M0'.drew.al _).al _) | with_reducible exact HS2.out _ _ _ _ _ _ _ (((M0'.al _).al _).drew) | with_reducible exact HS2.out _ _ _ _ _ _ _ (M0'.al _) | with_reducible exact HS2.out _ _ _ _ _ _ _ ((M0'.al _).al _))
                      clear hK K
                      refine anyT_ready (rs := [15]) (by kernel_rfl) (by simp) ?_
                      refine AllT.cons rfl (fun K hK => ?_) AllT.nil
                      go_simp
                      refine hK.out _ _ ?h1x31 ?h2x31 ?_
                      case h1x31 => (refine HSP.out _ ?_; repeat (first | with_reducible exact gw | with_reducible exact GC | with_reducible exact GA | with_reducible refine Gr.drew ?_ | with_reducible refine Gr.alloc ?_ _ | with_reducible refine Gr.setCell ?_ hwaq _))
                      case h2x31 => exact fun h => (notNone h (by kernel_rfl)).elim
                      clear hK K
                      refine anyT_take1 (i := 16) (v := ?v32) rfl (by kernel_rfl) (by kernel_rfl) (by kernel_rfl) rfl (fun _ _ _ h => h) (Or.inl ⟨by rfl, ?hy32⟩) ⟨?h1x32, ?h2x32⟩ ?rest32
                      case hy32 => (intro w hSw; (try dsimp only at hSw); go_simp; try with_reducible rfl)
                      case h1x32 => (refine HSP.out _ ?_; repeat (first | with_reducible exact gw | with_reducible exact GC | with_reducible exact GA | with_reducible refine Gr.drew ?_ | with_reducible refine Gr.alloc ?_ _ | with_reducible refine Gr.setCell ?_ hwaq _))
                      case h2x32 => exact fun h => (notNone h (by kernel_rfl)).elim
                      refine anyT_ready (rs := [17]) (by kernel_rfl) (by simp) ?_
                      refine AllT.cons rfl (fun K hK => ?_) AllT.nil
                      go_simp
                      refine hK.out _ _ ?h1x33 ?h2x33 ?_
                      case h1x33 => (refine HSP.out _ ?_; repeat (first | with_reducible exact gw | with_reducible exact GC | with_reducible exact GA | with_reducible refine Gr.drew ?_ | with_reducible refine Gr.alloc ?_ _ | with_reducible refine Gr.setCell ?_ hwaq _))
                      case h2x33 => exact fun h => (notNone h (by kernel_rfl)).elim
                      clear hK K
                      refine anyT_done (by kernel_rfl) ?_ _
                      go_wp2_with fail
                      go_roundg (gk - 1)
                      case rel => exact ⟨i + 1, by go_num, by omega, HLT.out, sec ⟨N + 1, F ++ [(m : Int)], G ++ [sv], HH.out, HW1'.out, _, _, _, _, (MC.st 3 _).st 4 _⟩⟩
                      case measure => have := HLT.out; omega
                · have q1 : (mw != (m : Int)) = true := by rw [bne_iff_ne]; exact hit
                  have HW1 := sec (HW.out.miss hlt (by rw [← hmw]; exact hit))
                  have HLT := sec hlt
                  clear hmw hit hls hij M0
                  go_wp2_with fail
                  go_roundg (gk - 1)
                  case rel => exact ⟨i + 1, by go_num, by omega, HLT.out, sec ⟨N, F, G, hN, HW1.out, _, _, _, _, M0'⟩⟩
                  case measure => have := HLT.out; omega
              · have q0 : decide (i < who.length) = false := decide_eq_false hlt
                have HI : Sec (i = who.length) := sec (by omega)
                by_cases hmx : (m : Int) = x
                · have q2 : ((m : Int) == x) = true := by rw [beq_iff_eq]; exact hmx
                  have HW1 : Sec (SgW who x seals SV ((m : Int) + 1) 0 (F ++ [(m : Int)]) (G ++ [SV])) := sec (by
                    have h := HW.out
                    rw [HI.out, hmx] at h
                    rw [hmx]
                    exact h.new HPW.out HSL.out)
                  have hN1 : N + 1 ≤ 17 := by
                    have h1 := HW1.out.lenF
                    rw [List.length_append, M0'.lenF] at h1
                    have h2 := mm_small (x := x) (w := (m : Int) + 1) (i := 0) HWL.out
                    simp only [List.length_cons, List.length_nil] at h1
                    omega
                  have HC : Sec (∀ X Y N' M' F' G' W, Md w2 q (q + 1) (TwA r o n A1 c1 N B1 d1 N) X Y N' M' F' G' W → W.cell? ⟨q, 3, none⟩ = some (.slice A1 N c1) ∧ W.cell? ⟨q, 4, none⟩ = some (.slice B1 N d1) ∧ W.frozen? ⟨q, 3, none⟩ = false ∧ W.frozen? ⟨q, 4, none⟩ = false) := sec (fun X Y N' M' F' G' W h => ⟨h.blk.cell 3, h.blk.cell 4, h.blk.frozen 3, h.blk.frozen 4⟩)
                  have HH := sec hN1
                  clear hlt hmx M0 hik hN1 HW
                  go_upto_region 22 with fail
                  clear y0 y1 y2 y3 y4
                  obtain ⟨k0, k1, k2, k3⟩ := HC.out _ _ _ _ _ _ _ (M0')
                  obtain ⟨l0, l1, l2, l3⟩ := HC.out _ _ _ _ _ _ _ (M0'.al (.cells #[.int .i64 (m : Int)] 3))
                  go_region_law (first
                    | (refine step_append_row (B := q + 1) (A0 := A1) (n0 := N) (cap0 := c1) (xs := F.map iV) (A := some ⟨wr.heap.size, 0, none⟩) (n := 1) (c := 1) (vs := [.int .i64 (m : Int)]) E.ints rfl (.tmp 87) (.tmp 89) rfl ?hd ?ho ?hx (row1 (T := 3) ?hr) (fun h => by cases h) (fun u hu => by simp at hu; subst hu; rfl) hb8 hbm ?hB ?_; (case hd => first | (simp [Act.eval]; done) | (unfold Act.put; simp [Act.eval]; done)); (case hx => first | (simp [Act.eval]; done) | (unfold Act.put; simp [Act.eval]; done)); (case ho => refine Md.own1 (w0 := w2) (q := q) (K := q + 1) (cs := TwA r o n A1 c1 N B1 d1 N) (X := .slice A1 N c1) (Y := .slice B1 N d1) (N := N) (M := N) (F := F) (G := G) ?_; (repeat (first | with_reducible exact M0' | with_reducible refine Md.drew ?_ | with_reducible refine Md.al ?_ _)); done); (case hr => (repeat (first | (with_reducible refine BlkAt ?_; simp; done) | with_reducible refine Blk.drew ?_ | with_reducible refine Blk.alloc ?_ _)); done); (case hB => refine Md.size (w0 := w2) (q := q) (K := q + 1) (cs := TwA r o n A1 c1 N B1 d1 N) (X := .slice A1 N c1) (Y := .slice B1 N d1) (N := N) (M := N) (F := F) (G := G) ?_ (Nat.le_refl _); (repeat (first | with_reducible exact M0' | with_reducible refine Md.drew ?_ | with_reducible refine Md.al ?_ _)); done); intro Aa ka wA oA hA; rw [iV_add] at oA; have MA : Md w2 q (q + 1) (TwA r o n A1 c1 N B1 d1 N) (.slice Aa (N + 1) ka) (.slice B1 N d1) (N + 1) (N) (F ++ [(m : Int)]) (G) wA := (by refine Md.app1 (w0 := w2) (q := q) (K := q + 1) (cs := TwA r o n A1 c1 N B1 d1 N) (X := .slice A1 N c1) (Y := .slice B1 N d1) (N := N) (M := N) (F := F) (G := G) ?_ oA hA; repeat (first | with_reducible exact M0' | with_reducible refine Md.drew ?_ | with_reducible refine Md.al ?_ _)); have GA : Gr wa wA := g2.trans MA.gr; obtain ⟨a0, a1, a2, a3⟩ := HC.out _ _ _ _ _ _ _ (MA))
                    | (go_simp; go_at_call 39; (refine Calls.mono (HSe.out _) ?_); rintro e wS ⟨rfl, gS⟩; have MS : Md w2 q (q + 1) (TwA r o n A1 c1 N B1 d1 N) (.slice Aa (N + 1) ka) (.slice B1 N d1) (N + 1) (N) (F ++ [(m : Int)]) (G) wS := (by first | exact MA.gr' gS | exact MA.drew.gr' gS | exact (MA.al _).gr' gS); obtain ⟨s0, s1, s2, s3⟩ := HC.out _ _ _ _ _ _ _ (MS); obtain ⟨sp0, sp1, sp2, sp3⟩ := HC.out _ _ _ _ _ _ _ (MS.al (.cells #[.string (bs SV)] 9)))
                    | (refine step_append_row (B := q + 1) (A0 := B1) (n0 := N) (cap0 := d1) (xs := G.map strV) (A := some ⟨wS.heap.size, 0, none⟩) (n := 1) (c := 1) (vs := [.string (bs SV)]) E.str rfl (.tmp 92) (.tmp 96) rfl ?hd ?ho ?hx (row1 (T := 9) ?hr) (fun h => by cases h) (fun u hu => by simp at hu; subst hu; rfl) hb16 hbm ?hB ?_; (case hd => first | (simp [Act.eval]; done) | (unfold Act.put; simp [Act.eval]; done)); (case hx => first | (simp [Act.eval]; done) | (unfold Act.put; simp [Act.eval]; done)); (case ho => refine Md.own2 (w0 := w2) (q := q) (K := q + 1) (cs := TwA r o n A1 c1 N B1 d1 N) (X := .slice Aa (N + 1) ka) (Y := .slice B1 N d1) (N := N + 1) (M := N) (F := F ++ [(m : Int)]) (G := G) ?_; (repeat (first | with_reducible exact MS | with_reducible refine Md.drew ?_ | with_reducible refine Md.al ?_ _)); done); (case hr => (repeat (first | with_reducible exact PA | (with_reducible refine BlkAt ?_; simp; done) | with_reducible refine Blk.drew ?_ | with_reducible refine Blk.alloc ?_ _)); done); (case hB => refine Md.size (w0 := w2) (q := q) (K := q + 1) (cs := TwA r o n A1 c1 N B1 d1 N) (X := .slice Aa (N + 1) ka) (Y := .slice B1 N d1) (N := N + 1) (M := N) (F := F ++ [(m : Int)]) (G := G) ?_ (Nat.le_refl _); (repeat (first | with_reducible exact MS | with_reducible refine Md.drew ?_ | with_reducible refine Md.al ?_ _)); done); intro Bb kb wC oC hC; rw [sV_add] at oC; have MC : Md w2 q (q + 1) (TwA r o n A1 c1 N B1 d1 N) (.slice Aa (N + 1) ka) (.slice Bb (N + 1) kb) (N + 1) (N + 1) (F ++ [(m : Int)]) (G ++ [SV]) wC := (by refine Md.app2 (w0 := w2) (q := q) (K := q + 1) (cs := TwA r o n A1 c1 N B1 d1 N) (X := .slice Aa (N + 1) ka) (Y := .slice B1 N d1) (N := N + 1) (M := N) (F := F ++ [(m : Int)]) (G := G) ?_ oC hC; repeat (first | with_reducible exact MS | with_reducible refine Md.drew ?_ | with_reducible refine Md.al ?_ _)); have GC : Gr wa wC := g2.trans MC.gr; obtain ⟨c0, c1, c2, c3⟩ := HC.out _ _ _ _ _ _ _ (MC)))
                  all_goals
                    go_wp2_with fail
                    go_roundg (gko - 1)
                    case rel => exact ⟨m + 1, by go_num, by omega, by omega, sec ⟨N + 1, F ++ [(m : Int)], G ++ [SV], HH.out, by have := HW1.out; simpa using this, _, _, _, _, (MC.st 3 _).st 4 _⟩⟩
                    case measure => omega
                · have q2 : ((m : Int) == x) = false := by rw [beq_eq_false_iff_ne]; exact hmx
                  have HW1 : Sec (SgW who x seals SV ((m : Int) + 1) 0 F G) := sec (by have h := HW.out; rw [HI.out] at h; exact h.next hmx)
                  clear hlt hmx M0 hik
                  go_wp2_with fail
                  go_roundg (gko - 1)
                  case rel => exact ⟨m + 1, by go_num, by omega, by omega, sec ⟨N, F, G, hN, by have := HW1.out; simpa using this, _, _, _, _, M0'⟩⟩
                  case measure => omega
          · have q0 : decide ((m : Int) < 8) = false := decide_eq_false (by omega)
            obtain rfl : m = 8 := by omega
            obtain ⟨N, F, G, hN, HW, A1, c1, B1, d1, M0⟩ := HF.out
            obtain ⟨f0, f1, f2⟩ := HW.done HRNG.out HX7.out HSL.out
            have HVF : Sec (V = (⟨r, o, n, F, G⟩, 0)) := sec (by rw [HV2.out, if_neg f0, f1, f2])
            clear HW f0 f1 f2 HF
            go_wp2_with (first
              | (refine wpList_load_blk rfl 46 (.tmp 13) rfl (g := q) rfl M0.blk aggStep ?_)
              | (refine wpList_store_blk rfl 46 (.tmp 8) (.tmp 101) rfl (g := p + 1) (cs' := TwA r o n A1 c1 N B1 d1 N) rfl rfl (HZ.out.gr gw) aggStep rfl (twA_one _ _ _ _ _ _ _ _ _) ?_; intro w9 h9 hg9))
            refine bodyPost_ret (results_blk_tmp rfl _ rfl h9 aggStep) rfl ?_
            obtain ⟨s1, s2⟩ := str_own (r := r) (o := o) (n := n) (own_only M0.own1 (HZ.out.gr gw) (by decide) hg9) (own_only M0.own2 (HZ.out.gr gw) (by decide) hg9)
            rw [HVF.out]
            exact ⟨A1, c1, B1, d1, congrArg (fun y => Ending.returned (.tuple #[.agg y, .int .i64 0])) s2, s1, Gr.only (hg0.trans gw) hg9 hwp1⟩
    · have HVB : Sec (V = (stpZ, be)) := sec (by rw [HVV.out, if_pos rfl, if_neg h1])
      have m0 : (be != 0) = true := by simpa using h1
      clear HVV HSE z4 z5 z6 z7 zF
      go_enter Tryd.func32, Tryd.ntmps32
      go_upto_region 1 with fail
      rw [← hwa, ← hp]
      clear hwa hp
      go_wp2_with (first
        | (go_at_call 26; refine Calls.mono HGo.out ?_; rintro e w1 ⟨rfl, g1⟩; obtain ⟨v0, v1, v2, v3, v4⟩ := HCELL.out w1 g1)
        | (go_at_call 24; refine Calls.mono (HBo.out _) ?_; rintro e w2 ⟨rfl, g2'⟩; have g2 : Gr wa w2 := Gr.trans g1 g2'; obtain ⟨z0, z1, z2, z3, z4⟩ := HCELL.out w2 g2)
        | (refine wpList_store_blk rfl 46 (.tmp 8) _ rfl (g := p + 1) (cs' := stepA stpZ none 0 none 0) rfl rfl (HZ.out.gr g2) aggStep rfl (stepA_one _ _ _ _ _) ?_; intro w9 h9 hg9))
      refine bodyPost_ret (results_blk_tmp rfl _ rfl h9 aggStep) rfl ?_
      rw [HVB.out]
      exact ⟨none, 0, none, 0, rfl, StR.zero _, Gr.only (hg0.trans g2) hg9 hwp1⟩
  · have HVE : Sec (V = (stpZ, E)) := sec (by rw [HVV.out, if_neg h0])
    have m0 : (E != 0) = true := by simpa using h0
    clear HVV HSE
    go_enter Tryd.func32, Tryd.ntmps32
    go_upto_region 1 with fail
    rw [← hwa, ← hp]
    clear hwa hp
    go_wp2_with (first
      | (go_at_call 26; refine Calls.mono HGo.out ?_; rintro e w1 ⟨rfl, g1⟩; obtain ⟨v0, v1, v2, v3, v4⟩ := HCELL.out w1 g1)
      | (refine wpList_store_blk rfl 46 (.tmp 8) _ rfl (g := p + 1) (cs' := stepA stpZ none 0 none 0) rfl rfl (HZ.out.gr g1) aggStep rfl (stepA_one _ _ _ _ _) ?_; intro w9 h9 hg9))
    refine bodyPost_ret (results_blk_tmp rfl _ rfl h9 aggStep) rfl ?_
    rw [HVE.out]
    exact ⟨none, 0, none, 0, rfl, StR.zero _, Gr.only (hg0.trans g1) hg9 hwp1⟩
end Go.Proofs.YtkgmimmneeppgaaDoor
