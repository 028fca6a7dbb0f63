import Derived.Test.YtpgakpeodddnkaaCRebuild
namespace Go.Proofs.Ytpgakpeodddnkaa.C
open Go.RowKit Go.Proofs.YtpgakpeodddnkaaW.PrintWords Go.Proofs.YtpgakpeodddnkaaW.PrintLast Go.Proofs.YtpgakpeodddnkaaW.PrintMore

def NoPost (n : Int) (w : World) (e : Ending) (w' : World) : Prop := e = .returned (.tuple #[.slice none 0 0, .int .i64 n]) ∧ w = w'
theorem reb_form (A0 : Option Addr) (c0 : Nat) (l0 : List (List Int)) (v1 v2 : Value) (a b : Int) (w : World) (hr0 : Kd.C (Kd.slice 5 (Kd.int .u8)) w A0 l0.length l0) (hg : isGrid l0 = false) :
    Calls Try.prog 12 #[.slice A0 l0.length c0, v1, v2, .int .i64 a, .int .i64 b] w (NoPost 1 w) := by
  have HCK := Aside0.mk (cross_Check.same A0 c0 l0 1 w hr0 (by simp [cross_Check.f, hg]))
  clear hr0 hg
  go_enter Try.func12, Try.ntmps12
  go_wp2_with (go_at_call 16; refine HCK.out.mono ?_; rintro e w1 ⟨rfl, rfl⟩)
  go_ret2
  exact ⟨rfl, rfl⟩
theorem reb_rows (A0 : Option Addr) (c0 : Nat) (l0 : List (List Int)) (A1 : Option Addr) (n1 c1 : Nat) (v2 : Value) (a b : Int) (w : World) (hr0 : Kd.C (Kd.slice 5 (Kd.int .u8)) w A0 l0.length l0) (hg : isGrid l0 = true) (h1 : n1 ≠ 4) :
    Calls Try.prog 12 #[.slice A0 l0.length c0, .slice A1 n1 c1, v2, .int .i64 a, .int .i64 b] w (NoPost 1 w) := by
  have HCK := Aside0.mk (cross_Check.same A0 c0 l0 0 w hr0 (by simp [cross_Check.f, hg]))
  have hn1 : ((n1 : Int) != 4) = true := by simp; omega
  clear hr0 hg
  go_enter Try.func12, Try.ntmps12
  go_wp2_with (go_at_call 16; refine HCK.out.mono ?_; rintro e w1 ⟨rfl, rfl⟩)
  go_ret2
  exact ⟨rfl, rfl⟩
theorem reb_cross (A0 : Option Addr) (c0 : Nat) (l0 : List (List Int)) (A1 : Option Addr) (c1 : Nat) (A2 : Option Addr) (n2 c2 : Nat) (a b : Int) (w : World) (hr0 : Kd.C (Kd.slice 5 (Kd.int .u8)) w A0 l0.length l0) (hg : isGrid l0 = true) (h2 : n2 ≠ 4) :
    Calls Try.prog 12 #[.slice A0 l0.length c0, .slice A1 4 c1, .slice A2 n2 c2, .int .i64 a, .int .i64 b] w (NoPost 1 w) := by
  have HCK := Aside0.mk (cross_Check.same A0 c0 l0 0 w hr0 (by simp [cross_Check.f, hg]))
  have hn1 : ((n2 : Int) != 4) = true := by simp; omega
  clear hr0 hg
  go_enter Try.func12, Try.ntmps12
  go_wp2_with (go_at_call 16; refine HCK.out.mono ?_; rintro e w1 ⟨rfl, rfl⟩)
  go_ret2
  exact ⟨rfl, rfl⟩
theorem reb_range1 (A0 : Option Addr) (c0 : Nat) (l0 : List (List Int)) (A1 : Option Addr) (c1 : Nat) (A2 : Option Addr) (c2 : Nat) (a b : Int) (w : World) (hr0 : Kd.C (Kd.slice 5 (Kd.int .u8)) w A0 l0.length l0) (hg : isGrid l0 = true) (ha : (decide (0 ≤ a) && decide (a < 4)) = false) :
    Calls Try.prog 12 #[.slice A0 l0.length c0, .slice A1 4 c1, .slice A2 4 c2, .int .i64 a, .int .i64 b] w (NoPost 3 w) := by
  have HCK := Aside0.mk (cross_Check.same A0 c0 l0 0 w hr0 (by simp [cross_Check.f, hg]))
  have HD1 := Aside0.mk (disk_calls a false ha w)
  clear hr0 hg ha
  go_enter Try.func12, Try.ntmps12
  go_wp2_with (first | (go_at_call 16; refine HCK.out.mono ?_; rintro e w1 ⟨rfl, rfl⟩; clear HCK) | (go_at_call 30; refine HD1.out.mono ?_; rintro e w1 ⟨rfl, rfl⟩; clear HD1))
  go_ret2
  exact ⟨rfl, rfl⟩
theorem reb_range2 (A0 : Option Addr) (c0 : Nat) (l0 : List (List Int)) (A1 : Option Addr) (c1 : Nat) (A2 : Option Addr) (c2 : Nat) (a b : Int) (w : World) (hr0 : Kd.C (Kd.slice 5 (Kd.int .u8)) w A0 l0.length l0) (hg : isGrid l0 = true) (ha : (decide (0 ≤ a) && decide (a < 4)) = true) (hb : (decide (0 ≤ b) && decide (b < 4)) = false) :
    Calls Try.prog 12 #[.slice A0 l0.length c0, .slice A1 4 c1, .slice A2 4 c2, .int .i64 a, .int .i64 b] w (NoPost 3 w) := by
  have HCK := Aside0.mk (cross_Check.same A0 c0 l0 0 w hr0 (by simp [cross_Check.f, hg]))
  have HD1 := Aside0.mk (disk_calls a true ha w)
  have HD2 := Aside0.mk (disk_calls b false hb w)
  clear hr0 hg ha hb
  go_enter Try.func12, Try.ntmps12
  go_wp2_with (first | (go_at_call 16; refine HCK.out.mono ?_; rintro e w1 ⟨rfl, rfl⟩; clear HCK) | (go_at_call 30; refine HD1.out.mono ?_; rintro e w1 ⟨rfl, rfl⟩; clear HD1) | (go_at_call 30; refine HD2.out.mono ?_; rintro e w1 ⟨rfl, rfl⟩; clear HD2))
  go_ret2
  exact ⟨rfl, rfl⟩
theorem reb_twice (A0 : Option Addr) (c0 : Nat) (l0 : List (List Int)) (A1 : Option Addr) (c1 : Nat) (A2 : Option Addr) (c2 : Nat) (a : Int) (w : World) (hr0 : Kd.C (Kd.slice 5 (Kd.int .u8)) w A0 l0.length l0) (hg : isGrid l0 = true) (ha : (decide (0 ≤ a) && decide (a < 4)) = true) :
    Calls Try.prog 12 #[.slice A0 l0.length c0, .slice A1 4 c1, .slice A2 4 c2, .int .i64 a, .int .i64 a] w (NoPost 6 w) := by
  have HCK := Aside0.mk (cross_Check.same A0 c0 l0 0 w hr0 (by simp [cross_Check.f, hg]))
  have HD1 := Aside0.mk (disk_calls a true ha w)
  have hne : ((a : Int) == a) = true := beq_self_eq_true a
  clear hr0 hg ha
  go_enter Try.func12, Try.ntmps12
  go_wp2_with (first | (go_at_call 16; refine HCK.out.mono ?_; rintro e w1 ⟨rfl, rfl⟩; clear HCK) | (go_at_call 30; refine HD1.out.mono ?_; rintro e w1 ⟨rfl, rfl⟩))
  go_ret2
  exact ⟨rfl, rfl⟩

def cross_Rebuild.f (l0 : List (List Int)) (l1 : List Int) (l2 : List Int) (a3 : Int) (a4 : Int) : Option (List (List Int) × Int) :=
  some (if isGrid l0 = false ∨ l1.length ≠ 4 ∨ l2.length ≠ 4 then ([], 1) else if a3 < 0 ∨ 4 ≤ a3 ∨ a4 < 0 ∨ 4 ≤ a4 then ([], 3) else if a3 = a4 then ([], 6) else (outRows (endG l0 l1 l2 a3.toNat a4.toNat) 4, 0))
theorem cross_Rebuild.calls (A0 : Option Addr) (c0 : Nat) (l0 : List (List Int)) (A1 : Option Addr) (c1 : Nat) (l1 : List Int) (A2 : Option Addr) (c2 : Nat) (l2 : List Int) (a3 : Int) (a4 : Int) (r1 : List (List Int)) (r2 : Int) (w : World) (hr0 : Kd.C (Kd.slice 5 (Kd.int .u8)) w A0 l0.length l0) (_hc0 : l0.length ≤ c0) (hr1 : Kd.C (Kd.int .u8) w A1 l1.length l1) (_hc1 : l1.length ≤ c1) (hr2 : Kd.C (Kd.int .u8) w A2 l2.length l2) (_hc2 : l2.length ≤ c2) (h : cross_Rebuild.f l0 l1 l2 a3 a4 = some (r1, r2)) :
    Calls Try.prog 12 #[.slice A0 l0.length c0, .slice A1 l1.length c1, .slice A2 l2.length c2, .int .i64 a3, .int .i64 a4] w fun e w' => ∃ v0_ : Value, e = .returned (.tuple #[v0_, .int .i64 r2]) ∧ Kd.S (Kd.slice 5 (Kd.int .u8)) 23 w' w.heap.size (fun _ => True) v0_ r1 ∧ Below w.heap.size w w' := by
  have no : ∀ n : Int, ∀ e w', NoPost n w e w' → ∃ v0_ : Value, e = .returned (.tuple #[v0_, .int .i64 n]) ∧ Kd.S (Kd.slice 5 (Kd.int .u8)) 23 w' w.heap.size (fun _ => True) v0_ [] ∧ Below w.heap.size w w' := by
    rintro n e w' ⟨rfl, rfl⟩
    exact ⟨_, rfl, Kd.S_nil _ _ _ _ _, Below.refl _ _⟩
  unfold cross_Rebuild.f at h
  by_cases hg : isGrid l0 = true
  case neg =>
    have hg' : isGrid l0 = false := by simpa using hg
    rw [if_pos (Or.inl hg'), Option.some.injEq, Prod.mk.injEq] at h
    obtain ⟨rfl, rfl⟩ := h
    exact (reb_form A0 c0 l0 _ _ a3 a4 w hr0 hg').mono (no 1)
  by_cases h1 : l1.length = 4
  case neg =>
    rw [if_pos (Or.inr (Or.inl h1)), Option.some.injEq, Prod.mk.injEq] at h
    obtain ⟨rfl, rfl⟩ := h
    exact (reb_rows A0 c0 l0 A1 _ c1 _ a3 a4 w hr0 hg h1).mono (no 1)
  by_cases h2 : l2.length = 4
  case neg =>
    rw [if_pos (Or.inr (Or.inr h2)), Option.some.injEq, Prod.mk.injEq] at h
    obtain ⟨rfl, rfl⟩ := h
    rw [h1]
    exact (reb_cross A0 c0 l0 A1 c1 A2 _ c2 a3 a4 w hr0 hg h2).mono (no 1)
  rw [if_neg (by simp [hg, h1, h2])] at h
  by_cases ha : 0 ≤ a3 ∧ a3 < 4
  case neg =>
    rw [if_pos (by omega), Option.some.injEq, Prod.mk.injEq] at h
    obtain ⟨rfl, rfl⟩ := h
    rw [h1, h2]
    exact (reb_range1 A0 c0 l0 A1 c1 A2 c2 a3 a4 w hr0 hg (by simp; omega)).mono (no 3)
  by_cases hb : 0 ≤ a4 ∧ a4 < 4
  case neg =>
    rw [if_pos (by omega), Option.some.injEq, Prod.mk.injEq] at h
    obtain ⟨rfl, rfl⟩ := h
    rw [h1, h2]
    exact (reb_range2 A0 c0 l0 A1 c1 A2 c2 a3 a4 w hr0 hg (by simp; omega) (by simp; omega)).mono (no 3)
  rw [if_neg (by omega)] at h
  by_cases hab : a3 = a4
  · rw [if_pos hab, Option.some.injEq, Prod.mk.injEq] at h
    obtain ⟨rfl, rfl⟩ := h
    subst hab
    rw [h1, h2]
    exact (reb_twice A0 c0 l0 A1 c1 A2 c2 a3 w hr0 hg (by simp; omega)).mono (no 6)
  · rw [if_neg hab, Option.some.injEq, Prod.mk.injEq] at h
    obtain ⟨rfl, rfl⟩ := h
    obtain ⟨a, rfl⟩ : ∃ a : Nat, a3 = a := ⟨a3.toNat, by omega⟩
    obtain ⟨b, rfl⟩ : ∃ b : Nat, a4 = b := ⟨a4.toNat, by omega⟩
    have h4 := (grid_all hg).1
    rw [h4] at hr0 ⊢
    rw [h1] at hr1 ⊢
    rw [h2] at hr2 ⊢
    exact reb_ok A0 c0 l0 A1 c1 l1 A2 c2 l2 a b w hr0 hg hr1 hr2 (by omega) (by omega) (by omega)
end Go.Proofs.Ytpgakpeodddnkaa.C
