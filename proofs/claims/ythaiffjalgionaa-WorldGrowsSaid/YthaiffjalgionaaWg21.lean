/- A part of the proof: WorldE, TaleD, WorldR, WorldG. -/
import Derived.Test.YthaiffjalgionaaWg20

set_option linter.unusedVariables false
set_option linter.unusedSimpArgs false
namespace Go.Proofs.Ythaiffjalgionaa
open Go.RowKit Go.Maps

theorem FB.leafN {W w w0 : World} {L Z : List (Nat × Array Value)} {g : Nat} {n : NetV} {f o b : Nat} {M M' : MS} {k k' : Nat} {N : Nat} {vs : Array Value} (h : FB W L g n f o b M k w0 ((N, vs) :: Z) M' k' w) : ∃ N' w', N = N' ∧ w = w' ∧ (FA W ((N', vs) :: L) g n f o b M' k' w' ∧ Near (Is3 f o b) w0.heap.size w0 w') := ⟨_, _, rfl, rfl, h.done, h.near⟩
theorem FB.ne {W w w0 : World} {L Z : List (Nat × Array Value)} {g : Nat} {n : NetV} {f o b : Nat} {M M' : MS} {k k' : Nat} (h : FB W L g n f o b M k w0 Z M' k' w) (i : Nat) {x : Nat × Array Value} (hx : L[i]? = some x) : BoxV w x.1 x.2 ∧ x.1 ≠ w.heap.size ∧ w.heap.size ≠ x.1 := by
  have q := h.fa.box.bx _ (List.mem_of_getElem? hx)
  exact ⟨q.1, Nat.ne_of_lt q.2, Ne.symm (Nat.ne_of_lt q.2)⟩
theorem cells2 {w : World} {N : Nat} {a b : Int} (q : BoxV w N #[.int .i64 a, .int .i64 b]) : w.cell? ⟨N, 0, none⟩ = some (.int .i64 a) ∧ w.cell? ⟨N, 1, none⟩ = some (.int .i64 b) := ⟨q.1 0 _ rfl, q.1 1 _ rfl⟩
theorem BX.of_lo {W0 W w : World} {L : List (Nat × Array Value)} (h : BX W L w) (hb : Below W0.heap.size W0 W) : BX W0 L w := ⟨hb.trans (h.bl.mono hb.size), h.bx⟩
theorem hand_arr {ds : List Dev} {ls : List LinkV} {M : MS} {i y : Int} {p : P4} {ch : Int} (hE : netE ds ls = 0) (hM : GoodM M) {S : HandS} (hS : handS ds ls M i y p ch = S) (h0 : S.e = 0) : (⟨S.to.1, S.to.2, S.q⟩ : ArrV).ok := by
  have q := (hand_good (i := i) (y := y) (p := p) (ch := ch) hE hM).2
  rw [hS] at q
  have q2 := q h0
  have q3 := place_ok (netE_ok hE).dl q2.2
  exact ⟨q3.1, q3.2, right_ok q2.1⟩

set_option maxRecDepth 100000 in
set_option maxHeartbeats 16000000 in
theorem worldDo_walk {W0 W : World} {F : Nat → Prop} {g : Nat} {no : NetV} {gm : Nat} {nm : NetV} {f o b km : Nat} {A : Option Addr} {c : Nat} {Z : WS} {k : Nat} (h : WorldAt W0 W F g no gm nm f o b km A c Z k) (hb0 : Below W0.heap.size W0 W) {ds : List Dev} {ls : List LinkV} (hds : no.devs = ds) (hls : no.ls = ls) (hds2 : nm.devs = ds) (hls2 : nm.ls = ls) (hE : netE ds ls = 0) (hG : GoodW ds Z) (x : ActV) (hx : x.ok) (hk : k < 100000) :
    Calls Try.prog 32 #[.pointer (some ⟨g, 0, none⟩), .agg #[.int .i64 x.kind, .int .i64 x.dev, .int .i64 x.port, .int .i64 x.p.src, .int .i64 x.p.dst, .int .i64 x.p.sport, .int .i64 x.p.dport, .int .i64 x.ch]] W fun e W' => e = .returned (.int .i64 (doS ds ls Z x).1) ∧ ∃ A' c' F', WorldAt W0 W' F' g no gm nm f o b km A' c' (doS ds ls Z x).2 (k + 1) ∧ Near F W.heap.size W W' ∧ ∀ j, F' j → F j ∨ W.heap.size ≤ j := by
  have HW := hide h
  have hgl := (h.fo g h.fg).2
  have hlk := h.lk
  have hdn : nm.dn ≤ 10 := by rw [← devs_len h.mem.net, hds2]; exact (netE_ok hE).dl
  have HG3 := hide (show ¬ Is3 f o b g from fun e => (h.g3 g e).1 rfl)
  clear h
  have HD := hide (And.intro hds (And.intro hls (And.intro hds2 hls2)))
  have HE := hide hE
  have HGO := hide hG
  have HX := hide hx
  have HB0 := hide hb0
  clear hds hls hds2 hls2 hE hG hx hb0
  by_cases h1 : x.kind = 1
  case pos =>
    have HS := hide (show doS ds ls Z x = ((injS ds ls Z.S x.dev x.p).1, ⟨Z.M, (injS ds ls Z.S x.dev x.p).2⟩) from if_pos h1)
    have e1 : (x.kind == 1) = true := by simpa using h1
    clear h1
    go_enter Try.func32, Try.ntmps32
    go_wp2_with fail
    have HB1 := hide (below_alloc W (.cells #[.int .i64 x.kind, .int .i64 x.dev, .int .i64 x.port, .int .i64 x.p.src, .int .i64 x.p.dst, .int .i64 x.p.sport, .int .i64 x.p.dport, .int .i64 x.ch] 79))
    generalize World.alloc W _ = W1 at *
    refine (inject_walk ((HW.out.below HB1.out).up (Nat.le_succ k)) HD.out.1 HD.out.2.1 HE.out x.dev x.p HX.out.d HX.out.p (by omega) (by omega)).mono ?_
    rintro e W6 ⟨rfl, A', c', F', hw, hn, hF⟩
    have HW6 := hide hw
    have HN6 := hide hn
    have HF6 := hide hF
    clear hw hn hF
    go_wp2
    go_ret
    refine ⟨ret_i64 (by rw [HS.out]), A', c', F', by rw [HS.out]; exact HW6.out, (Near.of_below HB1.out).trans (HN6.out.mono HB1.out.size), fun j e => ?_⟩
    rcases HF6.out j e with e | e
    · exact Or.inl e
    · right; have := HB1.out.size; omega
  have e1 : (x.kind == 1) = false := by simpa using h1
  have H1 := hide h1
  clear h1
  by_cases h2 : x.kind = 2
  case pos =>
    have e2 : (x.kind == 2) = true := by simpa using h2
    have H2 := hide h2
    clear h2
    obtain ⟨B, hB⟩ : ∃ B, decide ((⟨x.dev, x.port, x.p⟩ : ArrV) ∈ Z.S) = B := ⟨_, rfl⟩
    have HHS := hide (fun (w' : World) (hb : Below W.heap.size W w') => worldHas_walk (HW.out.below hb) ⟨x.dev, x.port, x.p⟩ ⟨HX.out.d, HX.out.y, HX.out.p⟩)
    rw [hB] at HHS
    go_enter Try.func32, Try.ntmps32
    go_wp2_with fail
    generalize hG : World.alloc (World.alloc W _) _ = W2
    have HX2 := hide (boxes2 hG).1
    clear hG
    refine (HHS.out W2 HX2.out.bl).mono ?_
    clear HHS
    rintro e W3 ⟨rfl, hb⟩
    have HX3 := hide (HX2.out.below hb)
    clear hb HX2
    cases B
    case false =>
      have HS := hide (show doS ds ls Z x = (7, Z) from by rw [doS, if_neg H1.out, if_pos H2.out, if_neg (by simpa using hB)])
      go_wp2
      go_ret
      exact ⟨ret_i64 (by rw [HS.out]), A, c, F, by rw [HS.out]; exact (HW.out.below HX3.out.bl).up (Nat.le_succ k), Near.of_below HX3.out.bl, fun j e => Or.inl e⟩
    obtain ⟨S, hS⟩ : ∃ S, handS ds ls Z.M x.dev x.port x.p x.ch = S := ⟨_, rfl⟩
    have HS := hide (show doS ds ls Z x = (S.e, ⟨Z.M.learn S.kn, S.come Z.S⟩) from by rw [doS, if_neg H1.out, if_pos H2.out, if_pos (by simpa using hB), hS])
    have HAR := hide (hand_arr HE.out ⟨HGO.out.o, HGO.out.b⟩ hS)
    have HW3 := hide (HW.out.below HX3.out.bl)
    have HFA := hide (show FA W0 [(W.heap.size + 1, #[.int .i64 x.dev, .int .i64 x.port]), (W.heap.size, #[.int .i64 x.kind, .int .i64 x.dev, .int .i64 x.port, .int .i64 x.p.src, .int .i64 x.p.dst, .int .i64 x.p.sport, .int .i64 x.p.dport, .int .i64 x.ch])] gm nm f o b Z.M k W3 from
      ⟨HX3.out.of_lo HB0.out, HW3.out.mem, fun y hy e => by
        have h3 := (HW.out.fo _ (HW.out.f3 _ e)).2
        rcases List.mem_cons.1 hy with rfl | hy
        · simp only at h3; omega
        · obtain rfl := List.mem_singleton.1 hy
          simp only at h3; omega, fun j e => (HW.out.fo j (HW.out.f3 j e)).1⟩)
    have HGL := hide (show g < W3.heap.size ∧ W3.cell? ⟨g, 2, none⟩ = some (.pointer (some ⟨gm, 0, none⟩)) from ⟨(HW3.out.fo g HW3.out.fg).2, HW3.out.c2⟩)
    have HH := hide (fun (w' : World) (hm : MemAt w' gm nm f o b Z.M k) => hand_as gm nm f o b Z.M k x S HD.out.2.2.1 HD.out.2.2.2 HE.out HX.out (by omega) hS w' hm)
    clear hS hB
    obtain ⟨Se, ⟨St1, St2⟩, ⟨Sa, Sb, Sc, Sd⟩, Sk⟩ := S
    simp only [HandS.val] at HH
    go_wp2_with fail
    have HG := hide HFA.out.start
    have HN3 := hide HX3.out.bl
    clear HFA HX3
    have c2 := (HG.out.near.cell (a := ⟨g, 2, none⟩) HGL.out.1 HG3.out).trans HGL.out.2
    obtain ⟨p0, p1⟩ := cells2 (HG.out.ne 0 rfl).1
    obtain ⟨b0, b1, b2, b3, b4, b5, b6, b7⟩ := cells8 (HG.out.ne 1 rfl).1
    have n1 := (HG.out.ne 0 rfl).2
    have n2 := (HG.out.ne 1 rfl).2
    have n3 : g ≠ _ ∧ _ ≠ g := ⟨Nat.ne_of_lt (Nat.lt_of_lt_of_le HGL.out.1 HG.out.near.size), Ne.symm (Nat.ne_of_lt (Nat.lt_of_lt_of_le HGL.out.1 HG.out.near.size))⟩
    have n1a := n1.1
    have n1b := n1.2
    have n2a := n2.1
    have n2b := n2.2
    have n3a := n3.1
    have n3b := n3.2
    apply cut_region (C := fun N w' => FA W0 ((N, #[.int .i64 St1, .int .i64 St2, .int .i64 Sa, .int .i64 Sb, .int .i64 Sc, .int .i64 Sd]) :: [(W.heap.size + 1, #[.int .i64 x.dev, .int .i64 x.port]), (W.heap.size, #[.int .i64 x.kind, .int .i64 x.dev, .int .i64 x.port, .int .i64 x.p.src, .int .i64 x.p.dst, .int .i64 x.p.sport, .int .i64 x.p.dport, .int .i64 x.ch])]) gm nm f o b (Z.M.learn Sk) (k + 1) w' ∧ Near (Is3 f o b) W3.heap.size W3 w')
    · intro HK
      go_region_held3 (fun w' => w'.cell? ⟨g, 2, none⟩ = some (.pointer (some ⟨gm, 0, none⟩)) ∧ w'.cell? ⟨W.heap.size + 1, 0, none⟩ = some (.int .i64 x.dev) ∧ w'.cell? ⟨W.heap.size + 1, 1, none⟩ = some (.int .i64 x.port) ∧ w'.cell? ⟨W.heap.size, 3, none⟩ = some (.int .i64 x.p.src) ∧ w'.cell? ⟨W.heap.size, 4, none⟩ = some (.int .i64 x.p.dst) ∧ w'.cell? ⟨W.heap.size, 5, none⟩ = some (.int .i64 x.p.sport) ∧ w'.cell? ⟨W.heap.size, 6, none⟩ = some (.int .i64 x.p.dport) ∧ w'.cell? ⟨W.heap.size, 7, none⟩ = some (.int .i64 x.ch)) (go_keep) ((go_at_call 13; refine (HH.out _ ?_).mono ?_; (first | exact HG.out.d.mem | exact (HG.out.al _ _).d.mem | exact HG.out.mem | exact (HG.out.al _ _).mem); rintro e wp ⟨rfl, hm, hn⟩; (first | have HG := hide (HG.out.d.step hm hn) | have HG := hide ((HG.out.al _ _).d.step hm hn) | have HG := hide (HG.out.step hm hn) | have HG := hide ((HG.out.al _ _).step hm hn)); have c2 := (HG.out.near.cell (a := ⟨g, 2, none⟩) HGL.out.1 HG3.out).trans HGL.out.2; obtain ⟨p0, p1⟩ := cells2 (HG.out.ne 0 rfl).1; obtain ⟨b0, b1, b2, b3, b4, b5, b6, b7⟩ := cells8 (HG.out.ne 1 rfl).1; have n1 := (HG.out.ne 0 rfl).2; have n2 := (HG.out.ne 1 rfl).2; have n3 : g ≠ _ ∧ _ ≠ g := ⟨Nat.ne_of_lt (Nat.lt_of_lt_of_le HGL.out.1 HG.out.near.size), Ne.symm (Nat.ne_of_lt (Nat.lt_of_lt_of_le HGL.out.1 HG.out.near.size))⟩; have n1a := n1.1; have n1b := n1.2; have n2a := n2.1; have n2b := n2.2; have n3a := n3.1; have n3b := n3.2; (try obtain ⟨⟨z0, z1, z2, z3, z4, z5⟩, f0, f1, f2, f3, f4, f5⟩ := cells6 (HG.out.z _ List.mem_cons_self).1)))
      all_goals (first | (obtain ⟨N', w', e1, e2, q⟩ := (HG.out.al #[.int .i64 St1, .int .i64 St2, .int .i64 Sa, .int .i64 Sb, .int .i64 Sc, .int .i64 Sd] 43).leafN; rw [e2, e1]; exact HK.out _ _ q) | (obtain ⟨N', w', e1, e2, q⟩ := (((((((HG.out.set 0 (.int .i64 St1)).set 1 (.int .i64 St2)).set 2 (.int .i64 Sa)).set 3 (.int .i64 Sb)).set 4 (.int .i64 Sc)).set 5 (.int .i64 Sd))).leafN; rw [e2, e1]; exact HK.out _ _ q))
    clear HG HH p0 p1 b0 b1 b2 b3 b4 b5 b6 b7 n1 n2 n3 n1a n1b n2a n2b n3a n3b c2
    intro N W4 hFN
    have HF4 := hide hFN.1
    have HN4 := hide hFN.2
    have HW4 := hide (HW3.out.hand hFN.1.mem hFN.2 (Nat.le_succ k))
    clear hFN
    have HNN := hide (show Near F W.heap.size W W4 from (Near.of_below HN3.out).trans ((HN4.out.weak (fun j e => HW3.out.f3 j e)).mono HN3.out.size))
    have HSZ := hide (Nat.le_trans HN3.out.size HN4.out.size)
    clear HN3 HN4
    by_cases h5 : Se = 0
    case pos =>
      have hse := h5
      subst h5
      have HC := hide (show (HandS.mk 0 (St1, St2) ⟨Sa, Sb, Sc, Sd⟩ Sk).come Z.S = comeS Z.S ⟨St1, St2, ⟨Sa, Sb, Sc, Sd⟩⟩ from if_pos rfl)
      obtain ⟨z0, z1, z2, z3, z4, z5⟩ := (cells6 (HF4.out.box.get 0 rfl)).1
      go_wp2_with fail
      refine (comes_walk HW4.out ⟨St1, St2, ⟨Sa, Sb, Sc, Sd⟩⟩ (HAR.out (by trivial)) (by show Z.S.length + 1 ≤ k + 1; omega) (by omega)).mono ?_
      rintro e W6 ⟨rfl, A', c', F', hw, hn, hF⟩
      have HW6 := hide hw
      have HN6 := hide hn
      have HF6 := hide hF
      clear hw hn hF z0 z1 z2 z3 z4 z5
      go_wp2
      go_ret
      refine ⟨ret_i64 (by rw [HS.out]), A', c', F', by rw [HS.out, HC.out]; exact HW6.out, HNN.out.trans (HN6.out.mono HSZ.out), fun j e => ?_⟩
      rcases HF6.out j e with e | e
      · exact Or.inl e
      · right; have := HSZ.out; omega
    have e5 : (Se == 0) = false := by simpa using h5
    have HC := hide (show (HandS.mk Se (St1, St2) ⟨Sa, Sb, Sc, Sd⟩ Sk).come Z.S = Z.S from if_neg h5)
    go_wp2
    go_ret
    exact ⟨ret_i64 (by rw [HS.out]), A, c, F, by rw [HS.out, HC.out]; exact HW4.out, HNN.out, fun j e => Or.inl e⟩
  have e2 : (x.kind == 2) = false := by simpa using h2
  have H2 := hide h2
  clear h2
  by_cases h3 : x.kind = 3
  case pos =>
    have e3 : (x.kind == 3) = true := by simpa using h3
    have H3 := hide h3
    clear h3
    obtain ⟨R, hR⟩ : ∃ R, forgetS ds Z.M x.dev x.p x.ch = R := ⟨_, rfl⟩
    have HS := hide (show doS ds ls Z x = (R.1, ⟨R.2, Z.S⟩) from by rw [doS, if_neg H1.out, if_neg H2.out, if_pos H3.out, hR])
    have HFO := hide (fun (w' : World) (hb : Below W.heap.size W w') => forget_as gm nm f o b Z.M k x R.1 R.2 HD.out.2.2.1 hdn HX.out (by rw [hR]) (by rw [hR]) w' (HW.out.below hb).mem)
    go_enter Try.func32, Try.ntmps32
    go_wp2_with fail
    generalize hG : World.alloc W _ = W1
    have HX1 := hide (boxes1 hG).1
    clear hG
    obtain ⟨b0, b1, b2, b3, b4, b5, b6, b7⟩ := cells8 (HX1.out.get 0 rfl)
    have c2 := (HW.out.below HX1.out.bl).c2
    go_still_tail 10, (by kernel_rfl)
    clear b0 b1 b2 b3 b4 b5 b6 b7 c2
    go_wp2_with fail
    refine (HFO.out _ HX1.out.bl.drew).mono ?_
    rintro e W4 ⟨rfl, hm, hn⟩
    have HW4 := hide ((HW.out.below HX1.out.bl.drew).hand hm hn (Nat.le_refl k))
    have HNN := hide (show Near F W.heap.size W W4 from (Near.of_below HX1.out.bl.drew).trans ((hn.weak (fun j e => HW.out.f3 j e)).mono HX1.out.bl.drew.size))
    clear hm hn HFO
    go_wp2
    go_ret
    exact ⟨ret_i64 (by rw [HS.out]), A, c, F, by rw [HS.out]; exact HW4.out.up (Nat.le_succ k), HNN.out, fun j e => Or.inl e⟩
  have e3 : (x.kind == 3) = false := by simpa using h3
  have H3 := hide h3
  clear h3
  have HS := hide (show doS ds ls Z x = (1, Z) from by rw [doS, if_neg H1.out, if_neg H2.out, if_neg H3.out])
  go_enter Try.func32, Try.ntmps32
  go_wp2
  go_ret
  exact ⟨ret_i64 (by rw [HS.out]), A, c, F, by rw [HS.out]; exact (HW.out.below (below_alloc W _)).up (Nat.le_succ k), Near.of_below (below_alloc W _), fun j e => Or.inl e⟩
end Go.Proofs.Ythaiffjalgionaa

set_option linter.unusedVariables false
set_option linter.unusedSimpArgs false
namespace Go.Proofs.Ythaiffjalgionaa
open Go.RowKit Go.Maps

structure MB (w0 : World) (Z : List (Nat × Array Value)) (g : Nat) (n : NetV) (A0 A : Option Addr) (c : Nat) (Lf : List FactV) (w : World) : Prop where
  m : MindAt w g n A c Lf
  near : Near (fun k => k = g ∨ A0.map (·.block) = some k) w0.heap.size w0 w
  na : ∀ a, A = some a → A0.map (·.block) = some a.block ∨ w0.heap.size ≤ a.block
  nn : NetOn0 (fun j => j < w0.heap.size) n
  gl : g < w0.heap.size
  z : ∀ x ∈ Z, BoxV w x.1 x.2 ∧ x.1 < w.heap.size ∧ w0.heap.size ≤ x.1 ∧ A.map (·.block) ≠ some x.1
section
variable {w0 w w' : World} {Z : List (Nat × Array Value)} {g : Nat} {n : NetV} {A0 A A' : Option Addr} {c c' : Nat} {Lf L' : List FactV}
end

end Go.Proofs.Ythaiffjalgionaa

set_option linter.unusedVariables false
set_option linter.unusedSimpArgs false
namespace Go.Proofs.Ythaiffjalgionaa
open Go.RowKit Go.Maps

def stS (ds : List Dev) (ls : List LinkV) (l : List ActV) : Nat → WS
  | 0 => ⟨MS.empty, []⟩
  | k + 1 => match l[k]? with
    | some x => (doS ds ls (stS ds ls l k) x).2
    | none => stS ds ls l k
def stT (ds : List Dev) (ls : List LinkV) (l : List ActV) : Nat → TS
  | 0 => ⟨[], []⟩
  | k + 1 => match l[k]? with
    | some x => (doT ds ls (stT ds ls l k) x).2
    | none => stT ds ls l k
theorem stS_succ {ds : List Dev} {ls : List LinkV} {l : List ActV} {k : Nat} {x : ActV} (h : l[k]? = some x) : stS ds ls l (k + 1) = (doS ds ls (stS ds ls l k) x).2 := by simp [stS, h]
theorem stT_succ {ds : List Dev} {ls : List LinkV} {l : List ActV} {k : Nat} {x : ActV} (h : l[k]? = some x) : stT ds ls l (k + 1) = (doT ds ls (stT ds ls l k) x).2 := by simp [stT, h]
theorem rel_at (ds : List Dev) (ls : List LinkV) (l : List ActV) : ∀ k, RelW ds (stS ds ls l k) (stT ds ls l k)
  | 0 => ⟨Rel.empty _, rfl⟩
  | k + 1 => by
    have h := rel_at ds ls l k
    cases hx : l[k]? with
    | none => simpa [stS, stT, hx] using h
    | some x => rw [stS_succ hx, stT_succ hx]; exact (rel_do h x).2
theorem good_at {ds : List Dev} {ls : List LinkV} (hE : netE ds ls = 0) (l : List ActV) : ∀ k, GoodW ds (stS ds ls l k)
  | 0 => ⟨fun a v h => by simp [stS, MS.empty] at h, fun a v h => by simp [stS, MS.empty] at h, fun x hx => by simp [stS] at hx, by simp [stS]⟩
  | k + 1 => by
    have h := good_at hE l k
    cases hx : l[k]? with
    | none => simpa [stS, hx] using h
    | some x => rw [stS_succ hx]; exact (do_good hE h x).1

def WorldS (W w : World) (F : Nat → Prop) (g : Nat) (ds : List Dev) (ls : List LinkV) (Z : WS) (k : Nat) : Prop :=
  ∃ no gm nm f o b km A c, WorldAt W w F g no gm nm f o b km A c Z k ∧ no.devs = ds ∧ no.ls = ls ∧ nm.devs = ds ∧ nm.ls = ls
section
variable {W w w' : World} {F F' q : Nat → Prop} {g : Nat} {ds : List Dev} {ls : List LinkV} {Z : WS} {k k' : Nat} {gt0 : Nat} {n : NetV} {T : TS}
theorem WorldS.stay (h : WorldS W w F g ds ls Z k) (hn : Near q w.heap.size w w') (hq : ∀ j, q j → W.heap.size ≤ j ∧ ¬ F j) : WorldS W w' F g ds ls Z k := by
  obtain ⟨no, gm, nm, f, o, b, km, A, c, h1, h2⟩ := h
  exact ⟨no, gm, nm, f, o, b, km, A, c, h1.stay hn hq, h2⟩
theorem WorldS.below (h : WorldS W w F g ds ls Z k) (hb : Below w.heap.size w w') : WorldS W w' F g ds ls Z k :=
  h.stay (q := fun _ => False) (Near.of_below hb) (fun _ e => e.elim)
theorem WorldS.fo (h : WorldS W w F g ds ls Z k) : OwnB W w F := by
  obtain ⟨no, gm, nm, f, o, b, km, A, c, h1, h2⟩ := h
  exact h1.fo
theorem WorldS.lk (h : WorldS W w F g ds ls Z k) : Z.S.length ≤ k := by
  obtain ⟨no, gm, nm, f, o, b, km, A, c, h1, h2⟩ := h
  exact h1.lk
theorem worldDo_S (h : WorldS W w F g ds ls Z k) (hb0 : Below W.heap.size W w) (hE : netE ds ls = 0) (hG : GoodW ds Z) (x : ActV) (hx : x.ok) (hk : k < 100000) :
    Calls Try.prog 32 #[.pointer (some ⟨g, 0, none⟩), .agg #[.int .i64 x.kind, .int .i64 x.dev, .int .i64 x.port, .int .i64 x.p.src, .int .i64 x.p.dst, .int .i64 x.p.sport, .int .i64 x.p.dport, .int .i64 x.ch]] w fun e w' => e = .returned (.int .i64 (doS ds ls Z x).1) ∧ ∃ F', WorldS W w' F' g ds ls (doS ds ls Z x).2 (k + 1) ∧ Near F w.heap.size w w' ∧ ∀ j, F' j → F j ∨ w.heap.size ≤ j := by
  obtain ⟨no, gm, nm, f, o, b, km, A, c, h1, h2, h3, h4, h5⟩ := h
  refine (worldDo_walk h1 hb0 h2 h3 h4 h5 hE hG x hx hk).mono ?_
  rintro e w' ⟨he, A', c', F', hw, hn, hF⟩
  exact ⟨he, F', ⟨no, gm, nm, f, o, b, km, A', c', hw, h2, h3, h4, h5⟩, hn, hF⟩
theorem worldHas_S (h : WorldS W w F g ds ls Z k) (y : ArrV) (hy : y.ok) :
    Calls Try.prog 34 #[.pointer (some ⟨g, 0, none⟩), .agg #[.int .i64 y.d, .int .i64 y.y], .agg #[.int .i64 y.p.src, .int .i64 y.p.dst, .int .i64 y.p.sport, .int .i64 y.p.dport]] w fun e w' => e = .returned (.bool (decide (y ∈ Z.S))) ∧ Below w.heap.size w w' := by
  obtain ⟨no, gm, nm, f, o, b, km, A, c, h1, h2⟩ := h
  exact worldHas_walk h1 y hy
theorem seen_S (h : WorldS W w F g ds ls Z k) (hk : k < 100000) :
    Calls Try.prog 31 #[.pointer (some ⟨g, 0, none⟩)] w fun e w' => ∃ A' c', e = .returned (.slice A' Z.S.length c') ∧ Z.S.length ≤ c' ∧ w'.ownsRow w.heap.size 43 6 (.slice A' Z.S.length c') Z.S.length (Z.S.flatMap ArrV.cells) ∧ Below w.heap.size w w' := by
  obtain ⟨no, gm, nm, f, o, b, km, A, c, h1, h2⟩ := h
  exact seen_walk h1 hk
end
theorem worldNew_S (n : NetV) (W0 W : World) (h0 : W0.heap.size ≤ W.heap.size) (hn : NetAt W W.heap.size n) (hnn : NetOn0 (fun j => j < W0.heap.size) n) (hE : netE n.devs n.ls = 0) :
    Calls Try.prog 30 #[n.val] W fun e W' => ∃ g F, e = .returned (.tuple #[.pointer (some ⟨g, 0, none⟩), .int .i64 0]) ∧ WorldS W0 W' F g n.devs n.ls ⟨MS.empty, []⟩ 0 ∧ Below W.heap.size W W' ∧ ∀ j, F j → W.heap.size ≤ j := by
  refine (worldNew_ok n W0 W h0 hn hnn hE).mono ?_
  rintro e W' ⟨g, F, no, gm, nm, f, o, b, km, he, hw, ⟨h1, h2, h3, h4⟩, hb, hF⟩
  exact ⟨g, F, he, ⟨no, gm, nm, f, o, b, km, none, 0, hw, h1, h2, h3, h4⟩, hb, hF⟩
theorem net_on_below {w : World} {n : NetV} (h : NetAt w w.heap.size n) : NetOn0 (fun j => j < w.heap.size) n :=
  (h.on (K := 0) ⟨fun _ _ => Nat.zero_le _, fun _ _ => Nat.zero_le _, fun _ _ => ⟨fun _ _ => Nat.zero_le _, fun _ _ => Nat.zero_le _, fun _ _ => Nat.zero_le _⟩⟩).weak (fun j e => e.2)
end Go.Proofs.Ythaiffjalgionaa

set_option linter.unusedVariables false
set_option linter.unusedSimpArgs false
namespace Go.Proofs.Ythaiffjalgionaa
open Go.RowKit Go.Maps

structure L1 (W : World) (L : List (Nat × Array Value)) (F1 : Nat → Prop) (gw : Nat) (ds : List Dev) (ls : List LinkV) (Z : WS) (k : Nat) (w : World) : Prop where
  box : BX W L w
  a : WorldS W w F1 gw ds ls Z k
  dl : ∀ x ∈ L, ¬ F1 x.1
section
variable {W w w' : World} {L : List (Nat × Array Value)} {F1 F' : Nat → Prop} {gw : Nat} {ds : List Dev} {ls : List LinkV} {Z Z' : WS} {k k' : Nat}
theorem L1.below (h : L1 W L F1 gw ds ls Z k w) (hb : Below w.heap.size w w') : L1 W L F1 gw ds ls Z k w' := ⟨h.box.below hb, h.a.below hb, h.dl⟩
theorem L1.d (h : L1 W L F1 gw ds ls Z k w) : L1 W L F1 gw ds ls Z k w.drew := h.below (Below.refl _ _).drew
theorem L1.less {x : Nat × Array Value} (h : L1 W (x :: L) F1 gw ds ls Z k w) : L1 W L F1 gw ds ls Z k w := ⟨h.box.less, h.a, fun y hy => h.dl y (List.mem_cons_of_mem _ hy)⟩
theorem L1.al (h : L1 W L F1 gw ds ls Z k w) (vs : Array Value) (t : TypeId) : L1 W ((w.heap.size, vs) :: L) F1 gw ds ls Z k (w.alloc (.cells vs t)) := by
  have q := h.below (below_alloc w (.cells vs t))
  refine ⟨(h.box.al vs t).done, q.a, fun x hx => ?_⟩
  rcases List.mem_cons.1 hx with rfl | hx
  · exact fun e => Nat.lt_irrefl _ (h.a.fo _ e).2
  · exact h.dl x hx
theorem L1.step (h : L1 W L F1 gw ds ls Z k w) (hw : WorldS W w' F' gw ds ls Z' k') (hn : Near F1 w.heap.size w w') (hF : ∀ j, F' j → F1 j ∨ w.heap.size ≤ j) : L1 W L F' gw ds ls Z' k' w' :=
  ⟨h.box.beside hn (fun x hx => h.dl x hx) (fun j e => (h.a.fo j e).1), hw, fun x hx => fun e => by
      rcases hF _ e with q | q
      · exact h.dl x hx q
      · have := (h.box.bx x hx).2; omega⟩
theorem L1.go (h : L1 W L F1 gw ds ls Z k w) (hE : netE ds ls = 0) (hG : GoodW ds Z) (x : ActV) (ho : x.ok) (hk : k < 100000) {R : Int × WS} (hR : doS ds ls Z x = R) :
    Calls Try.prog 32 #[.pointer (some ⟨gw, 0, none⟩), .agg #[.int .i64 x.kind, .int .i64 x.dev, .int .i64 x.port, .int .i64 x.p.src, .int .i64 x.p.dst, .int .i64 x.p.sport, .int .i64 x.p.dport, .int .i64 x.ch]] w fun e w' => e = .returned (.int .i64 R.1) ∧ ∃ F', L1 W L F' gw ds ls R.2 (k + 1) w' ∧ Near F1 w.heap.size w w' ∧ ∀ j, F' j → F1 j ∨ w.heap.size ≤ j := by
  subst hR
  refine (worldDo_S h.a h.box.bl hE hG x ho hk).mono ?_
  rintro e w' ⟨he, F', hw, hn, hF⟩
  exact ⟨he, F', h.step hw hn hF, hn, hF⟩
end
def fireW (A : Option Addr) (n c : Nat) (R : List RuleV) : DevV := ⟨⟨#[]⟩, 3, 0, 0, none, 0, 0, [], A, n, c, R, none, 0, 0, []⟩
theorem fireW_at {w : World} {B : Nat} {A : Option Addr} {n c : Nat} {R : List RuleV} (h : RulesAt w B A n R) (hc : n ≤ c ∧ c ≤ maxLen) : DevAt w B (fireW A n c R) :=
  ⟨Nat.zero_le _, by simp [fireW, i64ok], by simp [fireW, i64ok], by simp [fireW], ⟨rfl, fun x hx => by simp [fireW] at hx, fun h0 => absurd h0 (Nat.lt_irrefl _)⟩, h, ⟨rfl, fun h0 => absurd h0 (Nat.lt_irrefl _)⟩, fun r hr => by simp [fireW] at hr, by simp [fireW], hc, by simp [fireW]⟩
theorem oneRule_at {w : World} {N B : Nat} (h : BoxV w N #[.bool true, .int .u16 65535, .int .u16 65535, .int .u8 255, .int .u8 255]) (hN : N < B) : RulesAt w B (some ⟨N, 0, none⟩) 1 [allR true] :=
  (show SlAt RuleV.cells 5 w B (some ⟨N, 0, none⟩) [allR true].length [allR true] from slAt_box RuleV.len h hN).rules (fun r hr => by
    obtain rfl := List.mem_singleton.1 hr
    exact allR_ok _)
def runP : P4 := ⟨1, 2, 0, 0⟩
def run1 : ActV := ⟨1, 0, 0, ⟨1, 2, 0, 0⟩, 0⟩
def run2 : ActV := ⟨2, 1, 0, ⟨1, 2, 0, 0⟩, 0⟩
def runA : ArrV := ⟨1, 0, ⟨1, 2, 0, 0⟩⟩
def runB : ArrV := ⟨2, 0, ⟨1, 2, 0, 0⟩⟩
theorem run1_ok : run1.ok := ⟨by simp [run1, i64ok], by simp [run1, i64ok], by simp [run1, i64ok], ⟨by simp [run1, i64ok], by simp [run1, i64ok], by simp [run1, i64ok], by simp [run1, i64ok]⟩, by simp [run1, i64ok]⟩
theorem run2_ok : run2.ok := ⟨by simp [run2, i64ok], by simp [run2, i64ok], by simp [run2, i64ok], ⟨by simp [run2, i64ok], by simp [run2, i64ok], by simp [run2, i64ok], by simp [run2, i64ok]⟩, by simp [run2, i64ok]⟩
theorem runB_ok : runB.ok := ⟨by simp [runB, i64ok], by simp [runB, i64ok], ⟨by simp [runB, i64ok], by simp [runB, i64ok], by simp [runB, i64ok], by simp [runB, i64ok]⟩⟩
theorem peer00 : peerF chainL (0, 0) = some (1, 0) := by decide
theorem run1_s : doS (chainD (fireD [allR true])) chainL ⟨MS.empty, []⟩ run1 = (0, ⟨MS.empty, [runA]⟩) := by
  have e : injS (chainD (fireD [allR true])) chainL [] 0 ⟨1, 2, 0, 0⟩ = (0, [runA]) := by
    rw [injS_some (r := ⟨⟨#[105, 110]⟩, 1, 1, 0, [], [], []⟩) (by rfl) (by rfl), injR_some rfl (by rfl) rfl peer00]
    rfl
  show ((injS (chainD (fireD [allR true])) chainL [] 0 ⟨1, 2, 0, 0⟩).1, (⟨MS.empty, (injS (chainD (fireD [allR true])) chainL [] 0 ⟨1, 2, 0, 0⟩).2⟩ : WS)) = _
  rw [e]
theorem run_lets : letsB [allR true] runP = true := by decide
theorem run2_s : ∃ M, doS (chainD (fireD [allR true])) chainL ⟨MS.empty, [runA]⟩ run2 = (0, ⟨M, [runA, runB]⟩) := by
  have h : handS (chainD (fireD [allR true])) chainL MS.empty 1 0 ⟨1, 2, 0, 0⟩ 0 = ⟨0, (2, 0), ⟨1, 2, 0, 0⟩, .flow (1, ⟨1, 2, 0, 0⟩)⟩ := by
    rw [fire_out_s _ _ _ _ (by rfl)]
    exact if_pos run_lets
  refine ⟨MS.empty.learn (.flow (1, ⟨1, 2, 0, 0⟩)), ?_⟩
  have hm : (⟨run2.dev, run2.port, run2.p⟩ : ArrV) ∈ [runA] := by rw [List.mem_singleton]; rfl
  rw [doS, if_neg (show ¬ run2.kind = 1 by decide), if_pos (show run2.kind = 2 from rfl), if_pos hm]
  show ((handS (chainD (fireD [allR true])) chainL MS.empty 1 0 ⟨1, 2, 0, 0⟩ 0).e, (⟨MS.empty.learn (handS (chainD (fireD [allR true])) chainL MS.empty 1 0 ⟨1, 2, 0, 0⟩ 0).kn, (handS (chainD (fireD [allR true])) chainL MS.empty 1 0 ⟨1, 2, 0, 0⟩ 0).come [runA]⟩ : WS)) = _
  rw [h]
  have hc : comeS [runA] runB = [runA, runB] := if_neg (by rw [List.mem_singleton]; intro e; have := congrArg ArrV.d e; simp [runA, runB] at this)
  show (0, (⟨_, comeS [runA] runB⟩ : WS)) = _
  rw [hc]
set_option maxRecDepth 100000 in
set_option maxHeartbeats 8000000 in
theorem running_walk (W : World) : Calls Try.prog 29 #[] W fun e W' => e = .returned (.bool true) ∧ Below W.heap.size W W' := by
  go_enter Try.func29, Try.ntmps29
  go_wp2_with fail
  refine (allRule_walk true W).mono ?_
  rintro e w2 ⟨rfl, hb⟩
  have HB2 := hide hb
  clear hb
  have hx3 := BoxV.new w2 #[.bool true, .int .u16 65535, .int .u16 65535, .int .u8 255, .int .u8 255] 179
  have hb3 := below_alloc w2 (.cells #[.bool true, .int .u16 65535, .int .u16 65535, .int .u8 255, .int .u8 255] 179)
  have hl3 : w2.heap.size < (w2.alloc (.cells #[.bool true, .int .u16 65535, .int .u16 65535, .int .u8 255, .int .u8 255] 179)).heap.size := by simp
  have HB3 := hide (HB2.out.trans (hb3.mono HB2.out.size))
  have HCW := hide (chain_walk (fireW (some ⟨w2.heap.size, 0, none⟩) 1 1 [allR true]) _ (fireW_at (oneRule_at hx3 hl3) ⟨Nat.le_refl _, show 1 ≤ maxLen by unfold maxLen; omega⟩))
  clear hx3 hb3 hl3 HB2
  go_wp2_with fail
  refine HCW.out.mono ?_
  clear HCW
  rintro e w4 ⟨m, rfl, hm, hmd, hml, hb⟩
  have HB4 := hide (HB3.out.trans (hb.mono HB3.out.size))
  have hE := fire_net [allR true] (by simp)
  have HNW := hide (worldNew_S m w4 w4 (Nat.le_refl _) hm (net_on_below hm) (by rw [hmd, hml]; exact hE))
  rw [hmd, hml] at HNW
  have HE := hide hE
  clear hm hb HB3 hmd hml hE
  go_wp2_with fail
  refine HNW.out.mono ?_
  clear HNW
  rintro e w5 ⟨gw, F, rfl, hw, hb, hF⟩
  have HW5 := hide (show L1 w4 [] F gw (chainD (fireD [allR true])) chainL ⟨MS.empty, []⟩ 0 w5 from ⟨⟨hb, fun x hx => by cases hx⟩, hw, fun x hx => by cases hx⟩)
  clear hw hb hF
  go_wp2_with fail
  have HG := hide (HW5.out.al #[.int .i64 1, .int .i64 2, .int .i64 0, .int .i64 0] 39)
  obtain ⟨N, hN⟩ : ∃ N, w5.heap.size = N := ⟨_, rfl⟩
  rw [hN] at HG
  rw [hN]
  clear hN HW5
  generalize World.alloc w5 _ = w6 at *
  obtain ⟨M, hM⟩ := run2_s
  have hg1 : GoodW (chainD (fireD [allR true])) ⟨MS.empty, [runA]⟩ := by
    have q := (do_good HE.out (good_at HE.out [] 0) run1).1
    rw [show stS (chainD (fireD [allR true])) chainL [] 0 = ⟨MS.empty, []⟩ from rfl, run1_s] at q
    exact q
  have HD1 := hide (fun (w' : World) (F : Nat → Prop) (h : L1 w4 [(N, #[.int .i64 1, .int .i64 2, .int .i64 0, .int .i64 0])] F gw (chainD (fireD [allR true])) chainL ⟨MS.empty, []⟩ 0 w') => h.go HE.out (good_at HE.out [] 0) run1 run1_ok (by omega) run1_s)
  have HD2 := hide (fun (w' : World) (F : Nat → Prop) (h : L1 w4 [(N, #[.int .i64 1, .int .i64 2, .int .i64 0, .int .i64 0])] F gw (chainD (fireD [allR true])) chainL ⟨MS.empty, [runA]⟩ 1 w') => h.go HE.out hg1 run2 run2_ok (by omega) hM)
  have HHS := hide (fun (w' : World) (F : Nat → Prop) (h : L1 w4 [(N, #[.int .i64 1, .int .i64 2, .int .i64 0, .int .i64 0])] F gw (chainD (fireD [allR true])) chainL ⟨M, [runA, runB]⟩ 2 w') => worldHas_S h.a runB runB_ok)
  have hin : decide (runB ∈ [runA, runB]) = true := by simp
  simp only [hin] at HHS
  simp only [run1, run2, runB] at HD1 HD2 HHS
  clear hg1 hM hin
  obtain ⟨b0, b1, b2, b3⟩ := cells4 (HG.out.box.get 0 rfl)
  go_region_held3 (fun w' => w'.cell? ⟨N, 0, none⟩ = some (.int .i64 1) ∧ w'.cell? ⟨N, 1, none⟩ = some (.int .i64 2) ∧ w'.cell? ⟨N, 2, none⟩ = some (.int .i64 0) ∧ w'.cell? ⟨N, 3, none⟩ = some (.int .i64 0)) (go_keep) (first | (go_at_call_of 32 (Value.agg #[.int .i64 1, .int .i64 0, .int .i64 0, .int .i64 1, .int .i64 2, .int .i64 0, .int .i64 0, .int .i64 0]); refine (HD1.out _ _ (by first | exact HG.out.d | exact HG.out)).mono ?_; rintro e wp ⟨rfl, F', hg, hn, hF⟩; have HG := hide hg; obtain ⟨b0, b1, b2, b3⟩ := cells4 (HG.out.box.get 0 rfl)) | (go_at_call_of 32 (Value.agg #[.int .i64 2, .int .i64 1, .int .i64 0, .int .i64 1, .int .i64 2, .int .i64 0, .int .i64 0, .int .i64 0]); refine (HD2.out _ _ (by first | exact HG.out.d | exact HG.out)).mono ?_; rintro e wp ⟨rfl, F', hg, hn, hF⟩; have HG := hide hg; obtain ⟨b0, b1, b2, b3⟩ := cells4 (HG.out.box.get 0 rfl)) | (go_at_call 105; refine (placeOf_walk 2 0 _).mono ?_; rintro e wp ⟨rfl, hb⟩; (first | have HG := hide (HG.out.d.below hb) | have HG := hide (HG.out.below hb)); obtain ⟨b0, b1, b2, b3⟩ := cells4 (HG.out.box.get 0 rfl)) | (go_at_call 34; refine (HHS.out _ _ (by first | exact HG.out.d | exact HG.out)).mono ?_; rintro e wp ⟨rfl, hb⟩; (first | have HG := hide (HG.out.d.below hb) | have HG := hide (HG.out.below hb)); obtain ⟨b0, b1, b2, b3⟩ := cells4 (HG.out.box.get 0 rfl)))
  have HZ := hide (HB4.out.trans (HG.out.box.bl.mono HB4.out.size))
  clear b0 b1 b2 b3 HG HD1 HD2 HHS
  go_wp2
  go_ret
  exact ⟨rfl, HZ.out⟩
end Go.Proofs.Ythaiffjalgionaa
