/- A part of the proof: Vd4, Vd5. -/
import Derived.Test.YtklbdfgblebniaaDs23

set_option linter.unusedVariables false
set_option linter.unusedSimpArgs false
namespace Go.Proofs.Ytklbdfgblebniaa
open Go.RowKit Go.Maps

set_option maxRecDepth 100000 in
theorem findClos_walk (x : DevV) (nm : ByteArray) (k : Nat) (w : World) (hk : k < w.heap.size) (h0 : w.cell? ⟨k, 0, none⟩ = some (.string nm)) :
    Calls Try.prog 96 (#[x.val] ++ #[.pointer (some ⟨k, 0, none⟩)]) w fun e W' => e = .returned (.bool (decide (x.kind = 1) && nameEq x.name nm)) ∧ Below w.heap.size w W' := by
  have hne : k ≠ w.heap.size := by omega
  obtain ⟨xn, xk, xa, xp, bA, bn, bc, bs, rA, rn, rc, rs, tA, tn, tc, ts⟩ := x
  show Calls Try.prog 96 #[.agg #[.string xn, .int .i64 xk, .int .i64 xa, .int .u8 xp, .slice bA bn bc, .slice rA rn rc, .slice tA tn tc], .pointer (some ⟨k, 0, none⟩)] w _
  have HB := hide (fun o => show Below w.heap.size w (w.alloc o) from (Below.refl _ _).alloc (Nat.le_refl _) _)
  have hk1 : ∀ o, (w.alloc o).cell? ⟨k, 0, none⟩ = some (.string nm) := fun o => (((Below.refl _ _).alloc (Nat.le_refl _) o).cell (p := ⟨k, 0, none⟩) hk).trans h0
  by_cases ek : xk = 1
  · subst ek
    by_cases e : xn.toList = nm.toList
    all_goals
      go_enter Try.func96, Try.ntmps96
      go_wp2
      go_ret
      exact ⟨ret_bool (by simp [nameEq, e]), HB.out _⟩
  · have ek2 : (xk == 1) = false := by simpa using ek
    go_enter Try.func96, Try.ntmps96
    go_wp2
    go_ret
    exact ⟨ret_bool (by simp [ek]), HB.out _⟩

def hostD (nm : ByteArray) (d : Dev) : Bool := decide (d.kind = 1) && nameEq d.name nm
def hostI (nm : ByteArray) (ds : List Dev) : Int := idxF (hostD nm) ds
theorem idxF_map {α β : Type} (f : α → β) (p : β → Bool) (l : List α) : idxF (fun a => p (f a)) l = idxF p (l.map f) := by
  unfold idxF
  rw [List.findIdx?_map]
  rfl
theorem hostI_lt (nm : ByteArray) (ds : List Dev) : hostI nm ds = -1 ∨ ∃ k : Nat, hostI nm ds = (k : Int) ∧ k < ds.length := by
  rcases idxF_cases (hostD nm) ds with ⟨k, r, h1, h2, _⟩ | h
  · exact .inr ⟨k, h1, h2⟩
  · exact .inl h.1

set_option maxRecDepth 100000 in
set_option maxHeartbeats 4000000 in
theorem find_walkV (n : NetV) (nm : ByteArray) (W : World) (hn : NetAt W W.heap.size n) (hd : n.dn ≤ 10) :
    Calls Try.prog 89 #[n.val, .string nm] W fun e W' => e = .returned (.int .i64 (hostI nm n.devs)) ∧ Below W.heap.size W W' := by
  have HNW := hide (fun (w' : World) (hb : Below W.heap.size W w') => show NetAt w' w'.heap.size n from hn.below hb hb.size)
  clear hn
  obtain ⟨dA, dn, dc, ds, lA, ln, lc, ls⟩ := n
  simp only [NetV.val, NetV.devs] at *
  have HID := hide (show idxF (fun d : DevV => decide (d.kind = 1) && nameEq d.name nm) ds = hostI nm (ds.map DevV.dev) from idxF_map DevV.dev (hostD nm) ds)
  go_enter Try.func89, Try.ntmps89
  go_wp2_with fail
  have hb2 := (below_alloc2 W (.cells #[.slice dA dn dc, .slice lA ln lc] 25)).trans ((below_alloc2 (W.alloc (.cells #[.slice dA dn dc, .slice lA ln lc] 25)) (.cells #[.string nm] 9)).mono (below_alloc2 W _).size)
  have HB2 := hide hb2
  have HX2 := hide (show Bx ((W.alloc (.cells #[.slice dA dn dc, .slice lA ln lc] 25)).alloc (.cells #[.string nm] 9)) (W.heap.size + 1) #[.string nm] 9 from by
    have h := Bx.new (W.alloc (.cells #[.slice dA dn dc, .slice lA ln lc] 25)) #[.string nm] 9
    simpa using h)
  clear hb2
  generalize World.alloc (World.alloc W _) _ = w2 at *
  have HNA := hide ((HNW.out w2 HB2.out).ds)
  refine (indexFuncDev_any ds dA dn dc 96 #[.pointer (some ⟨W.heap.size + 1, 0, none⟩)] (fun d => decide (d.kind = 1) && nameEq d.name nm) w2 (by omega) HNA.out (fun args w => by go_simp) (hide (fun r w' hr hw' => findClos_walk r nm (W.heap.size + 1) w' (Nat.lt_of_lt_of_le HX2.out.lt hw'.size) ((HX2.out.below hw').get 0 _ rfl)))).mono ?_
  rintro e w3 ⟨rfl, hb⟩
  rw [HID.out]
  have HB3 := hide (HB2.out.trans (hb.mono HB2.out.size))
  clear hb
  go_wp2
  go_ret
  exact ⟨rfl, HB3.out⟩
end Go.Proofs.Ytklbdfgblebniaa

set_option linter.unusedVariables false
set_option linter.unusedSimpArgs false
namespace Go.Proofs.Ytklbdfgblebniaa
open Go.RowKit Go.Maps

def chkE (nm : ByteArray) (ds : List Dev) (ls : List LinkV) : Int := if netE ds ls = 0 then (if hostI nm ds < 0 then 4 else 0) else netE ds ls
def chkI (nm : ByteArray) (ds : List Dev) (ls : List LinkV) : Int := if chkE nm ds ls = 0 then hostI nm ds else 0
theorem net_dn {w : World} {B : Nat} {n : NetV} (hn : NetAt w B n) (hE : netE n.devs n.ls = 0) : n.dn ≤ 10 := by
  have h1 := (netE_ok hE).dl
  have h2 := hn.dlen
  simp only [NetV.devs, List.length_map] at h1
  omega
theorem chkE_host {nm : ByteArray} {ds : List Dev} {ls : List LinkV} (h : chkE nm ds ls = 0) : netE ds ls = 0 ∧ ∃ k : Nat, hostI nm ds = (k : Int) ∧ k < ds.length := by
  unfold chkE at h
  by_cases hE : netE ds ls = 0
  · rw [if_pos hE] at h
    refine ⟨hE, ?_⟩
    rcases hostI_lt nm ds with e | e
    · rw [e] at h; cases h
    · exact e
  · rw [if_neg hE] at h; exact absurd h hE

set_option maxRecDepth 100000 in
set_option maxHeartbeats 4000000 in
theorem check_walk (n : NetV) (nm : ByteArray) (W : World) (hn : NetAt W W.heap.size n) :
    Calls Try.prog 81 #[n.val, .string nm] W fun e W' => e = .returned (.tuple #[.int .i64 (chkI nm n.devs n.ls), .int .i64 (chkE nm n.devs n.ls)]) ∧ Below W.heap.size W W' := by
  have HNW := hide (fun (w' : World) (hb : Below W.heap.size W w') => show NetAt w' w'.heap.size n from hn.below hb hb.size)
  have HC := hide (fun (w' : World) (hb : Below W.heap.size W w') => netCheck_walk n w' (hn.below hb hb.size))
  have HF := hide (fun (hE : netE n.devs n.ls = 0) (w' : World) (hb : Below W.heap.size W w') => find_walkV n nm w' (hn.below hb hb.size) (net_dn hn hE))
  have HCE := hide (show chkE nm n.devs n.ls = if netE n.devs n.ls = 0 then (if hostI nm n.devs < 0 then 4 else 0) else netE n.devs n.ls from rfl)
  have HHI := hide (hostI_lt nm n.devs)
  have HIC := hide (show (chkE nm n.devs n.ls = 0 → chkI nm n.devs n.ls = hostI nm n.devs) ∧ (chkE nm n.devs n.ls ≠ 0 → chkI nm n.devs n.ls = 0) from ⟨fun h => if_pos h, fun h => if_neg h⟩)
  clear hn
  obtain ⟨dA, dn, dc, ds, lA, ln, lc, ls⟩ := n
  simp only [NetV.val, NetV.devs] at *
  generalize chkI nm (ds.map DevV.dev) ls = J at *
  obtain ⟨C, hC⟩ : ∃ C, chkE nm (ds.map DevV.dev) ls = C := ⟨_, rfl⟩
  rw [hC] at HCE HIC ⊢
  clear hC
  obtain ⟨I, hI⟩ : ∃ I, hostI nm (ds.map DevV.dev) = I := ⟨_, rfl⟩
  simp only [hI] at HCE HIC HHI HF
  clear hI
  go_enter Try.func81, Try.ntmps81
  go_wp2_with fail
  have hb0 := below_alloc2 W (.cells #[.slice dA dn dc, .slice lA ln lc] 25)
  have HX0 := hide (Bx.new W #[.slice dA dn dc, .slice lA ln lc] 25)
  refine (HC.out _ hb0).mono ?_
  clear HC
  rintro e w1 ⟨rfl, hb⟩
  have HB1 := hide (hb0.trans (hb.mono hb0.size))
  have HX1 := hide (HX0.out.below hb)
  clear hb hb0 HX0
  by_cases hE : netE (ds.map DevV.dev) ls = 0
  · rw [hE]
    have HCC := hide (show C = if I < 0 then 4 else 0 from by rw [HCE.out, if_pos hE])
    have HF1 := hide (HF.out hE w1 HB1.out)
    have x0 : w1.cell? ⟨W.heap.size, 0, none⟩ = some (.slice dA dn dc) := HX1.out.get 0 _ rfl
    have x1 : w1.cell? ⟨W.heap.size, 1, none⟩ = some (.slice lA ln lc) := HX1.out.get 1 _ rfl
    clear HF HCE hE
    go_wp2_with fail
    refine HF1.out.mono ?_
    clear HF1 x0 x1
    rintro e w2 ⟨rfl, hb⟩
    have HB2 := hide (HB1.out.trans (hb.mono HB1.out.size))
    clear hb
    rcases HHI.out with rfl | ⟨k, rfl, _⟩
    · have HC4 := hide (show C = 4 from HCC.out)
      go_wp2
      go_ret2
      exact ⟨by rw [HC4.out, HIC.out.2 (by rw [HC4.out]; decide)]; rfl, HB2.out⟩
    · have HC0 := hide (show C = 0 from by rw [HCC.out, if_neg (by omega)])
      have hk0 : decide ((k : Int) < 0) = false := by simp
      go_wp2
      go_ret2
      exact ⟨by rw [HC0.out, HIC.out.1 HC0.out]; rfl, HB2.out⟩
  · have HCC := hide (show C = netE (ds.map DevV.dev) ls from by rw [HCE.out, if_neg hE])
    have hC0 : ¬ C = 0 := fun e => hE (HCC.out.symm.trans e)
    rw [← HCC.out]
    have hE2 : (C != 0) = true := by simpa using hC0
    have HC0 := hide hC0
    clear HF HCE hE hC0
    go_wp2
    go_ret2
    exact ⟨by rw [HIC.out.2 HC0.out]; rfl, HB1.out⟩

def SliceP (n : NetV) (nm : ByteArray) (W : World) (e : Ending) (W' : World) : Prop := Below W.heap.size W W' ∧
  ((chkE nm n.devs n.ls ≠ 0 ∧ e = .returned (.tuple #[.agg #[.slice none 0 0, .slice none 0 0], .int .i64 (chkE nm n.devs n.ls)])) ∨
   (chkE nm n.devs n.ls = 0 ∧ ∃ (m : NetV) (v : Nat → Bool), e = .returned (.tuple #[m.val, .int .i64 0]) ∧ NetAt W' W'.heap.size m ∧ NetLo W.heap.size m ∧ NearIs n.ls (hostI nm n.devs).toNat v ∧ m.devs = pickD v n.devs n.devs.length ∧ m.ls = pickL v n.devs.length n.ls))

set_option maxRecDepth 100000 in
set_option maxHeartbeats 4000000 in
theorem slice_walk (n : NetV) (nm : ByteArray) (W : World) (hn : NetAt W W.heap.size n) : Calls Try.prog 57 #[n.val, .string nm] W (SliceP n nm W) := by
  have HC := hide (fun (w' : World) (hb : Below W.heap.size W w') => check_walk n nm w' (hn.below hb hb.size))
  have HS := hide (fun (hE : netE n.devs n.ls = 0) (i0 : Nat) (hi : i0 < n.dn) (w' : World) (hb : Below W.heap.size W w') => sliced_walk n i0 w' (hn.below hb hb.size) hE hi)
  have HCH := hide (fun h => chkE_host (nm := nm) (ds := n.devs) (ls := n.ls) h)
  have HDL := hide (show n.devs.length = n.dn from by simp only [NetV.devs, List.length_map]; exact hn.dlen)
  have HIC := hide (show (chkE nm n.devs n.ls = 0 → chkI nm n.devs n.ls = hostI nm n.devs) from fun h => if_pos h)
  have HBAD := hide (fun (E : Int) (hE : chkE nm n.devs n.ls = E) (h0 : E ≠ 0) (w' : World) (hb : Below W.heap.size W w') => show SliceP n nm W (.returned (.tuple #[.agg #[.slice none 0 0, .slice none 0 0], .int .i64 E])) w' from ⟨hb, .inl ⟨by rw [hE]; exact h0, by rw [hE]⟩⟩)
  have HGOOD := hide (fun (hE : chkE nm n.devs n.ls = 0) (k : Nat) (hk : hostI nm n.devs = (k : Int)) (w' : World) (hb : Below W.heap.size W w') (m : NetV) (v : Nat → Bool) (h1 : NetAt w' w'.heap.size m) (h1' : NetLo W.heap.size m) (h2 : NearIs n.ls k v) (h3 : m.devs = pickD v n.devs n.dn) (h4 : m.ls = pickL v n.dn n.ls) => show SliceP n nm W (.returned (.tuple #[m.val, .int .i64 0])) w' from
    ⟨hb, .inr ⟨hE, m, v, rfl, h1, h1', by rw [hk]; exact h2, by rw [HDL.out]; exact h3, by rw [HDL.out]; exact h4⟩⟩)
  clear hn
  generalize SliceP n nm W = Q at *
  obtain ⟨dA, dn, dc, ds, lA, ln, lc, ls⟩ := n
  simp only [NetV.val, NetV.devs] at *
  generalize hJ : chkI nm (ds.map DevV.dev) ls = J at *
  have HJ := hide hJ
  obtain ⟨C, hC⟩ : ∃ C, chkE nm (ds.map DevV.dev) ls = C := ⟨_, rfl⟩
  have HCC := hide hC
  simp only [hC] at HC
  clear hJ hC
  go_enter Try.func57, Try.ntmps57
  go_wp2_with fail
  have hb0 := (below_alloc2 W (.cells #[.slice dA dn dc, .slice lA ln lc] 25)).trans ((below_alloc2 (W.alloc (.cells #[.slice dA dn dc, .slice lA ln lc] 25)) (.cells #[.slice none 0 0, .slice none 0 0] 25)).mono (below_alloc2 W _).size)
  have HB0 := hide hb0
  have HX0 := hide ((Bx.new W #[.slice dA dn dc, .slice lA ln lc] 25).below (below_alloc2 (W.alloc (.cells #[.slice dA dn dc, .slice lA ln lc] 25)) (.cells #[.slice none 0 0, .slice none 0 0] 25)))
  have HR0 := hide (show Bx ((W.alloc (.cells #[.slice dA dn dc, .slice lA ln lc] 25)).alloc (.cells #[.slice none 0 0, .slice none 0 0] 25)) (W.heap.size + 1) #[.slice none 0 0, .slice none 0 0] 25 from by
    have h := Bx.new (W.alloc (.cells #[.slice dA dn dc, .slice lA ln lc] 25)) #[.slice none 0 0, .slice none 0 0] 25
    simpa using h)
  clear hb0
  generalize World.alloc (World.alloc W _) _ = w0 at *
  refine (HC.out w0 HB0.out).mono ?_
  clear HC
  rintro e w1 ⟨rfl, hb⟩
  have HB1 := hide (HB0.out.trans (hb.mono HB0.out.size))
  have HX1 := hide (HX0.out.below hb)
  have HR1 := hide (HR0.out.below hb)
  clear hb HB0 HX0 HR0
  have r0 := HR1.out.get 0 _ rfl
  have r1 := HR1.out.get 1 _ rfl
  have f0 := HR1.out.frozen 0
  have f1 := HR1.out.frozen 1
  by_cases h0 : C = 0
  · subst h0
    obtain ⟨hE, k, hk, hkl⟩ := HCH.out HCC.out
    have hJk : J = (k : Int) := (HIC.out HCC.out).trans hk
    subst hJk
    have HK := hide hk
    have HS1 := hide (HS.out hE k (by rw [← HDL.out]; exact hkl) w1 HB1.out)
    have x0 : w1.cell? ⟨W.heap.size, 0, none⟩ = some (.slice dA dn dc) := HX1.out.get 0 _ rfl
    have x1 : w1.cell? ⟨W.heap.size, 1, none⟩ = some (.slice lA ln lc) := HX1.out.get 1 _ rfl
    clear hE hk hkl HS
    go_wp2_with fail
    refine HS1.out.mono ?_
    clear HS1 x0 x1 r0 r1 f0 f1
    rintro e w2 ⟨m, A, c, v, rfl, hm, hlo, hnear, hd, hls, hi, hb⟩
    have HB2 := hide (HB1.out.trans (hb.mono HB1.out.size))
    have HR2 := hide (HR1.out.below hb)
    have HM := hide (And.intro hm (And.intro hnear (And.intro hd hls)))
    have HLO := hide hlo
    have hsr := HR1.out.lt
    clear hb hm hnear hd hls hi hlo HR1 HX1
    obtain ⟨mA, mn, mc, ms, kA, kn, kc, ks⟩ := m
    simp only [NetV.val, NetV.devs] at *
    have hrl := HR2.out.lt
    have r0 : ∀ o1, (w2.alloc o1).cell? ⟨W.heap.size + 1, 0, none⟩ = some (.slice none 0 0) := fun o1 => (HR2.out.below (below_alloc2 w2 o1)).get 0 _ rfl
    have r1 : ∀ o1, (w2.alloc o1).cell? ⟨W.heap.size + 1, 1, none⟩ = some (.slice none 0 0) := fun o1 => (HR2.out.below (below_alloc2 w2 o1)).get 1 _ rfl
    have f0 : ∀ o1, (w2.alloc o1).frozen? ⟨W.heap.size + 1, 0, none⟩ = false := fun o1 => (HR2.out.below (below_alloc2 w2 o1)).frozen 0
    have f1 : ∀ o1, (w2.alloc o1).frozen? ⟨W.heap.size + 1, 1, none⟩ = false := fun o1 => (HR2.out.below (below_alloc2 w2 o1)).frozen 1
    have hne2 : W.heap.size + 1 ≠ w2.heap.size := by omega
    have r0' := HR2.out.get 0 _ rfl
    have r1' := HR2.out.get 1 _ rfl
    have f0' := HR2.out.frozen 0
    have f1' := HR2.out.frozen 1
    go_wp2
    have hbx := ((HR2.out.set 0 (.slice mA mn mc)).set 1 (.slice kA kn kc)).below (below_alloc2 ((w2.setCell ⟨W.heap.size + 1, 0, none⟩ (.slice mA mn mc)).setCell ⟨W.heap.size + 1, 1, none⟩ (.slice kA kn kc)) (.cells #[.slice mA mn mc, .slice kA kn kc] 25))
    have z0 := hbx.get 0 (.slice mA mn mc) rfl
    have z1 := hbx.get 1 (.slice kA kn kc) rfl
    have hst : StayOn (fun q => q ≠ W.heap.size + 1) w2 ((w2.setCell ⟨W.heap.size + 1, 0, none⟩ (.slice mA mn mc)).setCell ⟨W.heap.size + 1, 1, none⟩ (.slice kA kn kc)) := (StayOn.of_set ⟨W.heap.size + 1, 0, none⟩ _).trans (StayOn.of_set ⟨W.heap.size + 1, 1, none⟩ _)
    have hszf : (((w2.setCell ⟨W.heap.size + 1, 0, none⟩ (.slice mA mn mc)).setCell ⟨W.heap.size + 1, 1, none⟩ (.slice kA kn kc))).heap.size = w2.heap.size := by simp [World.setCell]
    have hbf : Below W.heap.size W (((w2.setCell ⟨W.heap.size + 1, 0, none⟩ (.slice mA mn mc)).setCell ⟨W.heap.size + 1, 1, none⟩ (.slice kA kn kc)).alloc (.cells #[.slice mA mn mc, .slice kA kn kc] 25)) := ((HB2.out.setCell (by show _ ≤ W.heap.size + 1; omega) _).setCell (by show _ ≤ W.heap.size + 1; omega) _).trans ((below_alloc2 ((w2.setCell ⟨W.heap.size + 1, 0, none⟩ (.slice mA mn mc)).setCell ⟨W.heap.size + 1, 1, none⟩ (.slice kA kn kc)) _).mono (by rw [hszf]; exact HB2.out.size))
    have hnet : NetAt ((w2.setCell ⟨W.heap.size + 1, 0, none⟩ (.slice mA mn mc)).setCell ⟨W.heap.size + 1, 1, none⟩ (.slice kA kn kc)) w2.heap.size ⟨mA, mn, mc, ms, kA, kn, kc, ks⟩ := HM.out.1.stay hst (fun a ha => by have := HLO.out.d a ha; omega) (fun a ha => by have := HLO.out.l a ha; omega) (fun d hd => (HLO.out.o d hd).weak (fun q hq => by omega)) (Nat.le_refl _)
    have hnet2 : NetAt (((w2.setCell ⟨W.heap.size + 1, 0, none⟩ (.slice mA mn mc)).setCell ⟨W.heap.size + 1, 1, none⟩ (.slice kA kn kc)).alloc (.cells #[.slice mA mn mc, .slice kA kn kc] 25)) ((((w2.setCell ⟨W.heap.size + 1, 0, none⟩ (.slice mA mn mc)).setCell ⟨W.heap.size + 1, 1, none⟩ (.slice kA kn kc)).alloc (.cells #[.slice mA mn mc, .slice kA kn kc] 25))).heap.size ⟨mA, mn, mc, ms, kA, kn, kc, ks⟩ := by
      rw [← hszf] at hnet
      exact hnet.below (below_alloc2 ((w2.setCell ⟨W.heap.size + 1, 0, none⟩ (.slice mA mn mc)).setCell ⟨W.heap.size + 1, 1, none⟩ (.slice kA kn kc)) _) (below_alloc2 ((w2.setCell ⟨W.heap.size + 1, 0, none⟩ (.slice mA mn mc)).setCell ⟨W.heap.size + 1, 1, none⟩ (.slice kA kn kc)) _).size
    refine bodyPost_ret (v := .tuple #[.agg #[.slice mA mn mc, .slice kA kn kc], .int .i64 0]) (by simp only [results, Try.f57]; simp [go_sem, z0, z1]) rfl ?_
    exact HGOOD.out HCC.out k HK.out _ hbf ⟨mA, mn, mc, ms, kA, kn, kc, ks⟩ v hnet2 (HLO.out.less (by omega)) HM.out.2.1 HM.out.2.2.1 HM.out.2.2.2
  · have h02 : (C != 0) = true := by simpa using h0
    have HC0 := hide h0
    clear h0
    go_wp2
    have hbx := (HR1.out.set 0 (.slice none 0 0)).set 1 (.slice none 0 0)
    have z0 := hbx.get 0 (.slice none 0 0) rfl
    have z1 := hbx.get 1 (.slice none 0 0) rfl
    refine bodyPost_ret (v := .tuple #[.agg #[.slice none 0 0, .slice none 0 0], .int .i64 C]) (by simp only [results, Try.f57]; simp [go_sem, z0, z1]) rfl ?_
    exact HBAD.out C HCC.out HC0.out _ ((HB1.out.setCell (by show _ ≤ W.heap.size + 1; omega) _).setCell (by show _ ≤ W.heap.size + 1; omega) _)
end Go.Proofs.Ytklbdfgblebniaa
