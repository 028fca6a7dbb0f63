import Derived.Test.YtpgakpeodddnkaaCGrid
import Derived.Deep.RegionWith
import Derived.StillTailTactics
namespace Go.Proofs.Ytpgakpeodddnkaa.C
open Go.RowKit Go.Proofs.YtpgakpeodddnkaaW.PrintWords Go.Proofs.YtpgakpeodddnkaaW.PrintLast Go.Proofs.YtpgakpeodddnkaaW.PrintMore

def linesL (i : Int) : List S62 := [⟨i, 0⟩, ⟨i, 1⟩, ⟨i, 2⟩, ⟨i, 3⟩]
theorem linesL_0 : cross_lines.f 10 0 = some (linesL 0) := by kernel_rfl
theorem linesL_1 : cross_lines.f 10 1 = some (linesL 1) := by kernel_rfl
theorem linesL_2 : cross_lines.f 10 2 = some (linesL 2) := by kernel_rfl
theorem linesL_3 : cross_lines.f 10 3 = some (linesL 3) := by kernel_rfl
theorem linesL_eq (i : Nat) (hi : i < 4) : cross_lines.f 10 i = some (linesL i) := by
  match i, hi with
  | 0, _ => exact linesL_0
  | 1, _ => exact linesL_1
  | 2, _ => exact linesL_2
  | 3, _ => exact linesL_3
theorem linesL_in (i : Nat) (hi : i < 4) : ∀ p ∈ linesL i, 0 ≤ p.f0 ∧ p.f0 < 4 ∧ 0 ≤ p.f1 ∧ p.f1 ≤ 4 := by
  intro p hp
  simp [linesL] at hp
  rcases hp with rfl | rfl | rfl | rfl <;> simp <;> omega
theorem lines_calls (i : Nat) (hi : i < 4) (w : World) :
    Calls Try.prog 28 #[.int .i64 i] w fun e w' => ∃ A c, e = .returned (.slice A (linesL i).length c) ∧ Kd.C k62 w' A (linesL i).length (linesL i) ∧ Below w.heap.size w w' :=
  (cross_lines.calls 10 i (linesL i) w (linesL_eq i hi)).mono fun e w' ⟨v, he, hR, hb⟩ => by
    obtain ⟨A, c, rfl, _, hC⟩ := Kd.R_reads hR
    exact ⟨A, c, he, hC, hb⟩
def lineStep (gs : List Int) (i : Nat) : List Int := gs.set (i * 5 + 4) (sumOf gs (linesL i))
def lined (gs : List Int) : Nat → List Int
  | 0 => gs
  | k + 1 => lineStep (lined gs k) k
def rowsTo (gs : List Int) (k : Nat) : List Int := (List.range k).map fun i => sumOf (lined gs i) (linesL i)
theorem lined_len (gs : List Int) (k : Nat) : (lined gs k).length = gs.length := by
  induction k with
  | zero => rfl
  | succ k ih => simp [lined, lineStep, ih]

def crossesL (d : Int) : List S62 := [⟨0, (d + 5) % 5⟩, ⟨1, (d + 4) % 5⟩, ⟨2, (d + 3) % 5⟩, ⟨3, (d + 2) % 5⟩]
theorem crossesL_0 : cross_crosses.f 10 0 = some (crossesL 0) := by kernel_rfl
theorem crossesL_1 : cross_crosses.f 10 1 = some (crossesL 1) := by kernel_rfl
theorem crossesL_2 : cross_crosses.f 10 2 = some (crossesL 2) := by kernel_rfl
theorem crossesL_3 : cross_crosses.f 10 3 = some (crossesL 3) := by kernel_rfl
theorem crossesL_eq (i : Nat) (hi : i < 4) : cross_crosses.f 10 i = some (crossesL i) := by
  match i, hi with
  | 0, _ => exact crossesL_0
  | 1, _ => exact crossesL_1
  | 2, _ => exact crossesL_2
  | 3, _ => exact crossesL_3
theorem crossesL_in (i : Nat) (_hi : i < 4) : ∀ p ∈ crossesL i, 0 ≤ p.f0 ∧ p.f0 < 4 ∧ 0 ≤ p.f1 ∧ p.f1 ≤ 4 := by
  intro p hp
  simp [crossesL] at hp
  rcases hp with rfl | rfl | rfl | rfl <;> simp <;> omega
theorem crosses_calls (i : Nat) (hi : i < 4) (w : World) :
    Calls Try.prog 29 #[.int .i64 i] w fun e w' => ∃ A c, e = .returned (.slice A (crossesL i).length c) ∧ Kd.C k62 w' A (crossesL i).length (crossesL i) ∧ Below w.heap.size w w' :=
  (cross_crosses.calls 10 i (crossesL i) w (crossesL_eq i hi)).mono fun e w' ⟨v, he, hR, hb⟩ => by
    obtain ⟨A, c, rfl, _, hC⟩ := Kd.R_reads hR
    exact ⟨A, c, he, hC, hb⟩
theorem R_lt {α : Type} {d : Kd α} {e : Nat} {W : World} {base : Nat} {ok : Nat → Prop} {v : Value} {xs : List α} (h : d.R e W base ok v xs) (k : Nat) (hk : v.ownBlock = some k) : k < W.heap.size := by
  obtain ⟨_, inner, ho, _⟩ := h
  exact own_lt ho k hk
/-- one of two rows has been appended to: the other one stays, apart from it -/
theorem R_beside {α : Type} {d : Kd α} {e : Nat} {W w1 : World} {base : Nat} {v u v1 : Value} {xs : List α} (h : d.R e W base (fun k => some k ≠ u.ownBlock) v xs) (hg : W.grownBy w1 u.ownBlock)
    (hat : v1.ownBlock = u.ownBlock ∨ ∃ b, v1.ownBlock = some b ∧ W.heap.size ≤ b) : d.R e w1 base (fun k => some k ≠ v1.ownBlock) v xs :=
  Kd.R_mono (Kd.R_grown (Kd.R_bound h) hg (fun _ hk => hk.1)) (fun k hk => by
    rcases hat with hat | ⟨b, hb, hle⟩
    · rw [hat]; exact hk.1
    · rw [hb]; intro e; injection e with e; have := hk.2.2.1; omega)
def crossTo (gs : List Int) (k : Nat) : List Int := (List.range k).map fun i : Nat => sumOf gs (crossesL (i : Int))
theorem R_ok {d : Kd Int} {e : Nat} {W : World} {base : Nat} {ok : Nat → Prop} {v : Value} {xs : List Int} (h : d.R e W base ok v xs) {ok' : Nat → Prop} (hm : ∀ k, ok k → ok' k) : d.R e W base ok' v xs := Kd.R_mono h hm

set_option maxHeartbeats 4000000 in
theorem enc_ok (A0 : Option Addr) (c0 : Nat) (l0 : List (List Int)) (w : World) (hr0 : Kd.C (Kd.slice 5 (Kd.int .u8)) w A0 4 l0) (hg : isGrid l0 = true) :
    Calls Try.prog 11 #[.slice A0 4 c0] w fun e w' => ∃ v0_ v1_ : Value, e = .returned (.tuple #[v0_, v1_, .int .i64 0]) ∧ Kd.R (Kd.int .u8) 5 w' w.heap.size (fun k_ => some k_ ≠ (v1_ : Value).ownBlock) v0_ (rowsTo (laidK l0 4) 4) ∧ Kd.R (Kd.int .u8) 5 w' w.heap.size (fun k_ => some k_ ≠ (v0_ : Value).ownBlock) v1_ (crossTo (lined (laidK l0 4) 4) 4) ∧ Below w.heap.size w w' := by
  have HCK := Aside0.mk (cross_Check.same A0 c0 l0 0 w (by rw [(grid_all hg).1]; exact hr0) (by simp [cross_Check.f, hg]))
  rw [(grid_all hg).1] at HCK
  have HR := Aside0.mk hr0
  have HGR := Aside0.mk hg
  clear hr0 hg
  go_enter Try.func11, Try.ntmps11
  go_wp2_with (first | (go_at_call 16; refine HCK.out.mono ?_; rintro e w1 ⟨rfl, rfl⟩) | (go_at_call 26; refine (gridOf_calls _ _ _ _ HR.out HGR.out).mono ?_; rintro e w1 ⟨rfl, hG, hB⟩))
  have HB := Aside0.mk hB
  have HG := Aside0.mk hG
  clear hB hG HCK
  obtain ⟨gs, hgs⟩ : ∃ gs, gs = laidK l0 4 := ⟨_, rfl⟩
  have hlen : gs.length = 20 := by rw [hgs]; exact laidK_len HGR.out 4 (by omega)
  have HLN := Aside0.mk hlen
  have HG' : Aside0 (GridAt w1 w.heap.size gs) := ⟨by rw [hgs]; exact HG.out⟩
  have HGS := Aside0.mk hgs
  clear HG hlen hgs
  go_loopw [2, 16] (fun v i wr => ∃ k : Nat, k ≤ 4 ∧ i = .int .i64 k ∧ Aside0 (GridAt wr w.heap.size (lined gs k)) ∧ Aside0 (Kd.R (Kd.int .u8) 5 wr w.heap.size (fun _ => True) v (rowsTo gs k)) ∧ Aside0 (Below w.heap.size w wr)) (fun _ i _ => 4 - (intOf i).toNat)
  case atStart => exact ⟨0, Nat.zero_le _, rfl, HG', ⟨Kd.R_nil _ _ _ _ _⟩, HB⟩
  case round =>
    clear HG' HB
    obtain ⟨k, hk, rfl, HG, HV, HB⟩ := hrel
    by_cases hlt : k < 4
    · have hBw : w.heap.size < wr.heap.size := (Array.getElem?_eq_some_iff.1 HG.out).1
      have HLL : Aside0 ((lined gs k).length = 20) := ⟨by rw [lined_len]; exact HLN.out⟩
      go_wp2
      go_region_with (first | (go_at_call 28; refine (lines_calls k hlt _).mono ?_; rintro e w3 ⟨A, c, rfl, hC, hb⟩; have HC3 := Aside0.mk hC; have HB3 := Aside0.mk hb; have HG3 := Aside0.mk (grid_below (W := wr.drew) HG.out hb); clear hC hb) | (go_at_call 27; refine (sum_calls _ (lined gs k) _ _ _ _ HG3.out HLL.out HC3.out (linesL_in k hlt)).mono ?_; rintro e w4 ⟨rfl, hb⟩; have HB4 := Aside0.mk hb; have HG4 := Aside0.mk (grid_below HG3.out hb); have hc4 := grid_cell HG4.out (k * 5 + 4) (by rw [HLL.out]; omega); have hf4 := grid_free HG4.out (k * 5 + 4); clear hb))
      obtain ⟨s, hs⟩ : ∃ s, s = sumOf (lined gs k) (linesL k) := ⟨_, rfl⟩
      have HSS := Aside0.mk hs
      rw [← hs]
      have HB5 : Aside0 (Below w.heap.size w (w4.setCell ⟨w.heap.size, k * 5 + 4, none⟩ (.int .u8 s))) := ⟨(below_then (below_then (below_drew1 HB.out) (Nat.le_of_lt hBw) HB3.out) (Nat.le_of_lt (Array.getElem?_eq_some_iff.1 HG3.out).1) HB4.out).setCell (p := ⟨w.heap.size, k * 5 + 4, none⟩) (Nat.le_refl _) _⟩
      have HV5 : Aside0 (Kd.R (Kd.int .u8) 5 (w4.setCell ⟨w.heap.size, k * 5 + 4, none⟩ (.int .u8 s)) w.heap.size (fun _ => True) u2 (rowsTo gs k)) := ⟨Kd.R_set (Kd.R_below (Kd.R_below (Kd.R_drew HV.out) HB3.out) HB4.out) HG4.out (by decide) _ _⟩
      have HG5 : Aside0 (GridAt (w4.setCell ⟨w.heap.size, k * 5 + 4, none⟩ (.int .u8 s)) w.heap.size (lined gs (k + 1))) := ⟨by rw [show lined gs (k + 1) = (lined gs k).set (k * 5 + 4) s from by rw [HSS.out]; rfl]; exact grid_set HG4.out _ _⟩
      have hrl : (rowsTo gs k).length = k := by simp [rowsTo]
      have HRL := Aside0.mk hrl
      have hc5 : (w4.setCell ⟨w.heap.size, k * 5 + 4, none⟩ (.int .u8 s)).cell? ⟨w.heap.size, k * 5 + 4, none⟩ = some (.int .u8 s) := by
        rw [World.cell?_setCell_same' _ _ _ (by rw [hc4]; rfl)]
      clear hs hrl HG3 HG4 HC3 HB3 HB4 HV HB HG hc4 hf4
      generalize w4.setCell ⟨w.heap.size, k * 5 + 4, none⟩ (.int .u8 s) = W5 at HB5 HV5 HG5 hc5 ⊢
      go_wp2_with ((with_reducible refine gate_builtin (b := .append) (xs := #[.tmp 28, .tmp 35]) rfl ?_); at_builtin; refine Kd.R_append (Kd.int .u8) (w0 := w) w.heap.size rfl (.tmp 28) (.tmp 35) 23 5 (.int .u8 0) 1 rfl Try.underlying23 info5 rfl (by decide) (by omega) u2 (rowsTo gs k) s [.int .u8 s] (fun _ => True) (fun _ => False) rfl rfl rfl (fun _ hk => hk.elim) (fun _ _ => trivial) HV5.out HB5.out HB5.out.size ?aL ?_; (case aL => rw [HRL.out]; omega); intro v1 w6 ho hb hg hat; have HV6 := Aside0.mk ho; have HB6 := Aside0.mk hb; have HG6 := Aside0.mk (blk_grown HG5.out hg (fun e => Kd.R_ne HV5.out HG5.out (by decide) e)); clear ho hb hg hat)
      go_roundw
      case rel => exact ⟨k + 1, by omega, by go_num, ⟨HG6.out⟩, ⟨by rw [show rowsTo gs (k + 1) = rowsTo gs k ++ [s] from by rw [HSS.out]; simp [rowsTo, List.range_succ]]; exact HV6.out⟩, HB6⟩
      case measure => simp [intOf]; omega
    · obtain rfl : k = 4 := by omega
      have HLL : Aside0 ((lined gs 4).length = 20) := ⟨by rw [lined_len]; exact HLN.out⟩
      generalize hg4 : lined gs 4 = g4 at HG HLL
      generalize hr4 : rowsTo gs 4 = rows at HV
      have HRW := Aside0.mk hr4
      have HG4S := Aside0.mk hg4
      clear hr4 hg4
      go_wp2
      have HV0 : Aside0 (Kd.R (Kd.int .u8) 5 wr w.heap.size (fun k_ => some k_ ≠ (Value.slice none 0 0).ownBlock) u2 rows) := ⟨Kd.R_mono HV.out (fun _ _ => by simp [Value.ownBlock])⟩
      clear HV
      go_loopg [3, 38] 4 (fun gq v i wr => ∃ k : Nat, k + gq = 4 ∧ i = .int .i64 k ∧ Aside0 (GridAt wr w.heap.size g4) ∧ Aside0 (Kd.R (Kd.int .u8) 5 wr w.heap.size (fun k_ => some k_ ≠ (v : Value).ownBlock) u2 rows) ∧ Aside0 (Kd.R (Kd.int .u8) 5 wr w.heap.size (fun k_ => some k_ ≠ (u2 : Value).ownBlock) v (crossTo g4 k)) ∧ Aside0 (Below w.heap.size w wr))
      case atStart => exact ⟨0, by omega, rfl, HG, HV0, ⟨Kd.R_nil _ _ _ _ _⟩, HB⟩
      case round =>
        clear HG HV0 HB
        obtain ⟨k, hk, rfl, HG, HV, HX, HB⟩ := hrel
        by_cases hlt : k < 4
        · have hBw : w.heap.size < wr.heap.size := (Array.getElem?_eq_some_iff.1 HG.out).1
          have hrl : (crossTo g4 k).length = k := by simp [crossTo]
          have HRL := Aside0.mk hrl
          clear hrl
          go_wp2_with (first | (go_at_call 29; refine (crosses_calls k hlt _).mono ?_; rintro e w3 ⟨A, c, rfl, hC, hb⟩; have HC3 := Aside0.mk hC; have HB3 := Aside0.mk hb; have HG3 := Aside0.mk (grid_below HG.out hb); clear hC hb) | (go_at_call 27; refine (sum_calls _ g4 _ _ _ _ HG3.out HLL.out HC3.out (crossesL_in k hlt)).mono ?_; rintro e w4 ⟨rfl, hb⟩; have HB4 := Aside0.mk hb; have HG4 := Aside0.mk (grid_below HG3.out hb); clear hb; have HB5 := Aside0.mk (below_then (below_then HB.out (Nat.le_of_lt hBw) HB3.out) (Nat.le_of_lt (Array.getElem?_eq_some_iff.1 HG3.out).1) HB4.out); have HV5 := Aside0.mk (Kd.R_below (Kd.R_below HV.out HB3.out) HB4.out); have HX5 := Aside0.mk (Kd.R_below (Kd.R_below HX.out HB3.out) HB4.out)) | ((with_reducible refine gate_builtin (b := .append) (xs := #[.tmp 41, .tmp 46]) rfl ?_); at_builtin; refine Kd.R_append (Kd.int .u8) (w0 := w) w.heap.size rfl (.tmp 41) (.tmp 46) 23 5 (.int .u8 0) 1 rfl Try.underlying23 info5 rfl (by decide) (by omega) u3 (crossTo g4 k) (sumOf g4 (crossesL k)) [.int .u8 (sumOf g4 (crossesL k))] (fun k_ => some k_ ≠ (u2 : Value).ownBlock) (fun _ => False) rfl rfl rfl (fun _ hk => hk.elim) ?aF HX5.out HB5.out HB5.out.size ?aL ?_; (case aF => intro k_ hk_ e_; have := R_lt HV5.out k_ e_.symm; omega); (case aL => rw [HRL.out]; omega); intro v1 w6 ho hb hg hat; have HX6 := Aside0.mk ho; have HB6 := Aside0.mk hb; have HG6 := Aside0.mk (blk_grown HG4.out hg (fun e => Kd.R_ne HX5.out HG4.out (by decide) e)); have HV6 := Aside0.mk (R_beside HV5.out hg hat); clear ho hb hg hat))
          go_roundg (gk - 1)
          case rel => exact ⟨k + 1, by omega, by go_num, ⟨HG6.out⟩, HV6, ⟨by rw [show crossTo g4 (k + 1) = crossTo g4 k ++ [sumOf g4 (crossesL k)] from by simp [crossTo, List.range_succ]]; exact HX6.out⟩, HB6⟩
          case measure => omega
        · obtain rfl : k = 4 := by omega
          go_wp2
          go_ret3
          exact ⟨_, _, rfl, by rw [← HGS.out, HRW.out]; exact HV.out, by rw [← HGS.out, HG4S.out]; exact HX.out, HB.out⟩

theorem enc_no (A0 : Option Addr) (c0 : Nat) (l0 : List (List Int)) (w : World) (hr0 : Kd.C (Kd.slice 5 (Kd.int .u8)) w A0 l0.length l0) (hg : isGrid l0 = false) :
    Calls Try.prog 11 #[.slice A0 l0.length c0] w fun e w' => e = .returned (.tuple #[.slice none 0 0, .slice none 0 0, .int .i64 1]) ∧ w = w' := by
  have HCK := Aside0.mk (cross_Check.same A0 c0 l0 1 w hr0 (by simp [cross_Check.f, hg]))
  clear hr0 hg
  go_enter Try.func11, Try.ntmps11
  go_wp2_with (go_at_call 16; refine HCK.out.mono ?_; rintro e w1 ⟨rfl, rfl⟩)
  go_ret3
  exact ⟨rfl, rfl⟩

def cross_Encode.f (l0 : List (List Int)) : Option (List Int × List Int × Int) :=
  some (if isGrid l0 then (rowsTo (laidK l0 4) 4, crossTo (lined (laidK l0 4) 4) 4, 0) else ([], [], 1))
theorem cross_Encode.calls (A0 : Option Addr) (c0 : Nat) (l0 : List (List Int)) (r1 : List Int) (r2 : List Int) (r3 : Int) (w : World) (hr0 : Kd.C (Kd.slice 5 (Kd.int .u8)) w A0 l0.length l0) (_hc0 : l0.length ≤ c0) (h : cross_Encode.f l0 = some (r1, r2, r3)) :
    Calls Try.prog 11 #[.slice A0 l0.length c0] w fun e w' => ∃ v0_ v1_ : Value, e = .returned (.tuple #[v0_, v1_, .int .i64 r3]) ∧ Kd.R (Kd.int .u8) 5 w' w.heap.size (fun k_ => some k_ ≠ (v1_ : Value).ownBlock) v0_ r1 ∧ Kd.R (Kd.int .u8) 5 w' w.heap.size (fun k_ => some k_ ≠ (v0_ : Value).ownBlock) v1_ r2 ∧ Below w.heap.size w w' := by
  by_cases hg : isGrid l0 = true
  · have h4 := (grid_all hg).1
    simp only [cross_Encode.f, hg, if_true, Option.some.injEq, Prod.mk.injEq] at h
    obtain ⟨rfl, rfl, rfl⟩ := h
    rw [h4] at hr0 ⊢
    exact enc_ok A0 c0 l0 w hr0 hg
  · have hg' : isGrid l0 = false := by simpa using hg
    simp [cross_Encode.f, hg'] at h
    obtain ⟨rfl, rfl, rfl⟩ := h
    exact (enc_no A0 c0 l0 w hr0 hg').mono fun e w' ⟨he, hw⟩ => ⟨_, _, he, Kd.R_nil _ _ _ _ _, Kd.R_nil _ _ _ _ _, hw ▸ Below.refl _ _⟩
end Go.Proofs.Ytpgakpeodddnkaa.C
