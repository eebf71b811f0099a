/-
  law.DiskSteps: the walk, at Remove.
-/
import Derived.Test.YtcfghoohdlljkaaDiskDo3
import Derived.Test.YtcfghoohdlljkaaDiskStepL
import Derived.Deep.RegionHeld3
namespace Go.Proofs.Ytcfghoohdlljkaa
open Go.RowKit
set_option linter.unusedVariables false

set_option maxRecDepth 100000 in
set_option maxHeartbeats 4000000 in
theorem steps3_walk (what : Int) (A : Option Addr) (cap : Nat) (fs : List Fl) (f : Int) (name s : List UInt8) (W : World) (hd : DiskIn W A cap fs f) (hb1 : name.length ≤ 1048576) (hb2 : s.length ≤ 1048576) (hk : -9223372036854775808 ≤ what ∧ what ≤ 9223372036854775807) (hm : what % 4 = 3) :
    Calls Try.prog 5 #[.int .i64 what, diskV A fs.length cap f, .string (bs name), .string (bs s)] W fun e W' => e = .returned (.bool true) ∧ Gr W W' := by
  have hin := hd
  obtain ⟨hrow, hlen, hsize, hnil, hfuse, hcap⟩ := hd
  obtain ⟨n, hn⟩ : ∃ n, n = fs.length := ⟨_, rfl⟩
  rw [← hn] at hrow hlen hnil hcap
  rw [← hn]
  have hs : ∀ f ∈ fs, f.1.length ≤ 1099511627776 ∧ f.2.1.length ≤ 1099511627776 ∧ f.2.2.length ≤ 1099511627776 := fun x hx => by have := hsize x hx; omega
  have hn40 : n ≤ 1099511627776 := by omega
  have hl1 : name.length ≤ 1099511627776 := by omega
  have hl2 : s.length ≤ 1099511627776 := by omega
  have hg0 := (Gr.refl W).alloc (.cells #[.slice A n cap, .int .i64 f] 37)
  have hb1 := Blk.new W 37 #[.slice A n cap, .int .i64 f]
  have hrow1 := hrow.gr hg0
  obtain ⟨wa, hwa⟩ : ∃ x, x = W.alloc (.cells #[.slice A n cap, .int .i64 f] 37) := ⟨_, rfl⟩
  rw [← hwa] at hg0 hb1 hrow1
  obtain ⟨p, hp⟩ : ∃ p, p = W.heap.size := ⟨_, rfl⟩
  rw [← hp] at hb1
  obtain ⟨R, hR⟩ : ∃ R, R = stepR (rmF name) fs f := ⟨_, rfl⟩
  have HCp : Sec (∀ w, Gr wa w → Calls Try.prog 17 #[diskV A n cap f] w fun e w' => ∃ A' cap', e = .returned (diskV A' n cap' f) ∧ w'.ownsRow w.heap.size 70 3 (.slice A' n cap') n (fs.flatMap fileC) ∧ (A' = none → n = 0 ∧ cap' = 0) ∧ Gr w w') := sec (fun w g =>
    copyDisk_any fs A n cap f w hn40 (hrow1.gr g) hnil)
  have HOP : Sec (∀ w A' cap', FRow w A' n fs → (A' = none → n = 0 ∧ cap' = 0) → Calls Try.prog 27 #[diskV A' n cap' f, .string (bs name)] w (StepPost R A' n cap' fs w)) := sec (fun w A' cap' h hA => by
    rw [hR]; exact remove_any name fs A' n cap' f w hn40 h hA hs hfuse )
  have HDO : Sec (∀ w, Gr wa w → Calls Try.prog 28 #[.int .i64 3, diskV A n cap f, .string (bs name), .string (bs s)] w (StepPost R A n cap fs w)) := sec (fun w g => by
    rw [hR]; exact do3_any name s fs A n cap f w hn40 hcap (hrow1.gr g) hnil hs hfuse hl1 hl2)
  have HGO : Sec (∀ w A' cap', FRow w A' n fs → Calls Try.prog 29 #[diskV A' n cap' f] w fun e w' => e = .returned (.bool (goodFs fs)) ∧ Gr w w') := sec (fun w A' cap' h => good_any fs A' n cap' f w hn40 h hs)
  have HRG : Sec (∀ w, Gr wa w → Calls Try.prog 30 #[diskV A n cap f] w fun e w' => e = .returned (.bool (goodFs fs)) ∧ Gr w w') := sec (fun w g => rgood_any fs A n cap f w hn40 (hrow1.gr g) hs)
  have hRl : R.1.length ≤ 140737488355328 := by
    have h1 := stepR_len (rmF name) (by first | exact wrF_len _ _ | exact syF_len _ | exact rnF_len _ _ | exact rmF_len _) fs f
    rw [← hR] at h1
    omega
  obtain ⟨gs, u, er⟩ := R
  have HS1 : Sec (∀ w A1 n1 cap1 A2 n2 cap2, FRow w A1 n1 gs → FRow w A2 n2 gs → Calls Try.prog 21 #[diskV A1 n1 cap1 u, diskV A2 n2 cap2 u] w fun e w' => e = .returned (.bool true) ∧ Gr w w') := sec (fun w A1 n1 cap1 A2 n2 cap2 h1 h2 => by
    have e1 := h1.len
    have e2 := h2.len
    obtain rfl : n1 = n2 := by omega
    simp only at hRl
    exact sameDisk_any gs A1 A2 n1 cap1 cap2 u w (by omega) h1 h2)
  have HS2 : Sec (∀ w A1 cap1, FRow w A1 n fs → Gr wa w → Calls Try.prog 21 #[diskV A1 n cap1 f, diskV A n cap f] w fun e w' => e = .returned (.bool true) ∧ Gr w w') := sec (fun w A1 cap1 h1 g => sameDisk_any fs A1 A n cap1 cap f w (by omega) h1 (hrow1.gr g))
  have HPK : Sec (Calls Try.prog 23 #[.int .i64 what, .int .i64 4] wa fun e w' => e = .returned (.int .i64 3) ∧ Gr wa w') := sec (by have := pick4_any what wa hk; rwa [hm] at this)
  have HROW := sec (fun w (g : Gr wa w) => hrow1.gr g)
  have c0 : wa.cell? ⟨p, 0, none⟩ = some (.slice A n cap) := hb1.cell 0
  have c1 : wa.cell? ⟨p, 1, none⟩ = some (.int .i64 f) := hb1.cell 1
  have HB := sec hb1
  obtain ⟨G, hG⟩ : ∃ G, G = goodFs fs := ⟨_, rfl⟩
  rw [← hG] at HGO HRG
  clear hs hsize hrow hrow1 hb1 hnil hn hlen hR hl1 hl2 hin hm hk hcap hRl hG
  unfold StepPost at HOP HDO
  unfold diskV at HCp HOP HDO HGO HRG HS1 HS2
  unfold diskV
  go_enter Try.func5, Try.ntmps5
  go_upto_region 14 with (first
    | (rw [← hwa, ← hp]; clear hwa hp; go_wp2_with fail)
    | (go_at_call 23; refine HPK.out.mono ?_; rintro e w1 ⟨rfl, g1⟩; have c01 : (w1.alloc (.cells #[.slice none 0 0, .int .i64 0] 37)).cell? ⟨p, 0, none⟩ = some (.slice A n cap) := (HB.out.gr (g1.alloc _)).cell 0; have c11 : (w1.alloc (.cells #[.slice none 0 0, .int .i64 0] 37)).cell? ⟨p, 1, none⟩ = some (.int .i64 f) := (HB.out.gr (g1.alloc _)).cell 1)
    | (go_at_call 17; refine (HCp.out _ (g1.alloc _)).mono ?_; rintro e w2 ⟨A1, cap1, rfl, ho, hA1, g2⟩)
    | (go_at_call 27; refine (HOP.out _ A1 cap1 (Row.own (own_gr ho ((Gr.refl w2).alloc (.cells #[.slice A1 n cap1, .int .i64 f] 37)))) hA1).mono ?_; rintro e w4 ⟨A2, n2, cap2, rfl, g3, _, hrow2⟩; obtain ⟨hpa, h5g, h5a, h5b, h5c, h5d⟩ := steps_mid (u := u) g1 ho g2 g3 hrow2; have d0 : w4.cell? ⟨w1.heap.size, 0, none⟩ = some (.slice none 0 0) := hpa.cell 0; have d1 : w4.cell? ⟨w1.heap.size, 1, none⟩ = some (.int .i64 0) := hpa.cell 1; have f0 : w4.frozen? ⟨w1.heap.size, 0, none⟩ = false := hpa.frozen 0; have f1 : w4.frozen? ⟨w1.heap.size, 1, none⟩ = false := hpa.frozen 1; have gg4 : Gr wa w4 := g1.trans (((Gr.refl w1).alloc _).trans ((g2.alloc _).trans g3)); have c04 : w4.cell? ⟨p, 0, none⟩ = some (.slice A n cap) := (HB.out.gr gg4).cell 0; have c14 : w4.cell? ⟨p, 1, none⟩ = some (.int .i64 f) := (HB.out.gr gg4).cell 1; have hne : p ≠ w1.heap.size := by (have := (HB.out.gr g1).lt; omega))
    | (go_at_call 28; refine (HDO.out _ h5g).mono ?_; rintro e w6 ⟨A6, n6, cap6, rfl, g6, _, hrow6⟩))
  have HG7 := sec ((h5g.trans g6).alloc (.cells #[.slice A6 n6 cap6, .int .i64 u] 37))
  have HRA := sec ((h5a.gr g6).gr ((Gr.refl w6).alloc (.cells #[.slice A6 n6 cap6, .int .i64 u] 37)))
  have HRB := sec ((h5b.gr g6).gr ((Gr.refl w6).alloc (.cells #[.slice A6 n6 cap6, .int .i64 u] 37)))
  have HR6 := sec ((StepPost.row (r := (gs, u, er)) (HROW.out _ h5g) g6 hrow6).gr ((Gr.refl w6).alloc (.cells #[.slice A6 n6 cap6, .int .i64 u] 37)))
  have hk1 := (h5c.gr g6).alloc (.cells #[.slice A6 n6 cap6, .int .i64 u] 37)
  have hk2 := (h5d.gr g6).alloc (.cells #[.slice A6 n6 cap6, .int .i64 u] 37)
  have hk3 := Blk.new w6 37 #[.slice A6 n6 cap6, .int .i64 u]
  obtain ⟨w7, hw7⟩ : ∃ x, x = w6.alloc (.cells #[.slice A6 n6 cap6, .int .i64 u] 37) := ⟨_, rfl⟩
  obtain ⟨pb, hpb⟩ : ∃ x, x = w6.heap.size := ⟨_, rfl⟩
  obtain ⟨pa, hpa'⟩ : ∃ x, x = w1.heap.size := ⟨_, rfl⟩
  obtain ⟨pc, hpc⟩ : ∃ x, x = w2.heap.size := ⟨_, rfl⟩
  rw [← hw7] at HG7 HRA HRB HR6 hk1 hk2 hk3
  rw [← hpa'] at hk1
  rw [← hpc] at hk2
  rw [← hpb] at hk3
  rw [← hw7, ← hpa', ← hpb, ← hpc]
  have K1 := sec hk1
  have K2 := sec hk2
  have K3 := sec hk3
  simp only at HR6
  clear hw7 hpa' hpb hpc hk1 hk2 hk3 hrow6 g6 hne c04 c14 gg4 f0 f1 d0 d1 h5g h5a h5b h5c h5d hpa hrow2 g3 ho hA1 g2 g1 c01 c11 c0 c1
  have a0 : w7.cell? ⟨pa, 0, none⟩ = some (.slice A2 n2 cap2) := K1.out.cell 0
  have a1 : w7.cell? ⟨pa, 1, none⟩ = some (.int .i64 u) := K1.out.cell 1
  have b0 : w7.cell? ⟨pb, 0, none⟩ = some (.slice A6 n6 cap6) := K3.out.cell 0
  have b1 : w7.cell? ⟨pb, 1, none⟩ = some (.int .i64 u) := K3.out.cell 1
  have e0 : w7.cell? ⟨pc, 0, none⟩ = some (.slice A1 n cap1) := K2.out.cell 0
  have e1 : w7.cell? ⟨pc, 1, none⟩ = some (.int .i64 f) := K2.out.cell 1
  have c07 : w7.cell? ⟨p, 0, none⟩ = some (.slice A n cap) := (HB.out.gr HG7.out).cell 0
  have c17 : w7.cell? ⟨p, 1, none⟩ = some (.int .i64 f) := (HB.out.gr HG7.out).cell 1
  have HSK : Sec (∀ w', Gr w7 w' → w'.cell? ⟨pa, 0, none⟩ = some (.slice A2 n2 cap2) ∧ w'.cell? ⟨pa, 1, none⟩ = some (.int .i64 u) ∧ w'.cell? ⟨pb, 0, none⟩ = some (.slice A6 n6 cap6) ∧ w'.cell? ⟨pb, 1, none⟩ = some (.int .i64 u) ∧ w'.cell? ⟨pc, 0, none⟩ = some (.slice A1 n cap1) ∧ w'.cell? ⟨pc, 1, none⟩ = some (.int .i64 f) ∧ w'.cell? ⟨p, 0, none⟩ = some (.slice A n cap) ∧ w'.cell? ⟨p, 1, none⟩ = some (.int .i64 f) ∧ Gr w7 w') := sec (fun w' g => ⟨(K1.out.gr g).cell 0, (K1.out.gr g).cell 1, (K3.out.gr g).cell 0, (K3.out.gr g).cell 1, (K2.out.gr g).cell 0, (K2.out.gr g).cell 1, (HB.out.gr (HG7.out.trans g)).cell 0, (HB.out.gr (HG7.out.trans g)).cell 1, g⟩)
  clear K1 K2 K3
  have g7 : Gr w7 w7.drew := (Gr.refl _).drew
  go_region_held3 (fun w' => w'.cell? ⟨pa, 0, none⟩ = some (.slice A2 n2 cap2) ∧ w'.cell? ⟨pa, 1, none⟩ = some (.int .i64 u) ∧ w'.cell? ⟨pb, 0, none⟩ = some (.slice A6 n6 cap6) ∧ w'.cell? ⟨pb, 1, none⟩ = some (.int .i64 u) ∧ w'.cell? ⟨pc, 0, none⟩ = some (.slice A1 n cap1) ∧ w'.cell? ⟨pc, 1, none⟩ = some (.int .i64 f) ∧ w'.cell? ⟨p, 0, none⟩ = some (.slice A n cap) ∧ w'.cell? ⟨p, 1, none⟩ = some (.int .i64 f) ∧ Gr w7 w')
    (first | with_reducible assumption | with_reducible exact HSK.out _ g7 | with_reducible exact HSK.out _ g8 | with_reducible exact HSK.out _ g9 | with_reducible exact HSK.out _ g10 | with_reducible exact HSK.out _ g11 | with_reducible exact HSK.out _ g12 | with_reducible exact HSK.out _ g13 | fail)
    (first
      | (go_at_call 21; with_reducible refine Calls.mono (HS1.out w7.drew A2 n2 cap2 A6 n6 cap6 (HRB.out.gr g7) (HR6.out.gr g7)) ?_; rintro e w8 ⟨rfl, g8'⟩; have g8 : Gr w7 w8 := Gr.trans g7 g8')
      | (go_at_call 21; with_reducible refine Calls.mono (HS2.out w8 A1 cap1 (HRA.out.gr g8) (HG7.out.trans g8)) ?_; rintro e w9 ⟨rfl, g9'⟩; have g9 : Gr w7 w9 := Gr.trans g8 g9')
      | (go_at_call 17; (with_reducible refine Calls.mono (HCp.out w9 (HG7.out.trans g9)) ?_); rintro e w10 ⟨A10, cap10, rfl, ho10, hA10, g10'⟩; have g10 : Gr w7 w10 := g9.trans g10'; have hr10 : FRow w10 A10 n fs := Row.own ho10)
      | (go_at_call 29; with_reducible refine Calls.mono (HGO.out w10 A10 cap10 hr10) ?_; rintro e w11 ⟨rfl, g11'⟩; have g11 : Gr w7 w11 := g10.trans g11')
      | (go_at_call 30; with_reducible refine Calls.mono (HRG.out w11 (HG7.out.trans g11)) ?_; rintro e w12 ⟨rfl, g12'⟩; have g12 : Gr w7 w12 := g11.trans g12')
      | (go_at_call 22; with_reducible refine Calls.mono (disks_any w12) ?_; rintro e w13 ⟨rfl, g13'⟩; have g13 : Gr w7 w13 := g12.trans g13')
      | fail)
  all_goals (go_wp2_with fail; go_ret; exact ⟨rfl, hg0.trans (HG7.out.trans g13)⟩)
end Go.Proofs.Ytcfghoohdlljkaa
