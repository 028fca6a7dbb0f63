import Derived.Test.YtpgakpeodddnkaaCx0

namespace Go.Proofs.Ytpgakpeodddnkaa.C
open Go.RowKit Go.Proofs.YtpgakpeodddnkaaW.PrintWords Go.Proofs.YtpgakpeodddnkaaW.PrintLast Go.Proofs.YtpgakpeodddnkaaW.PrintMore

/-- 'Check$1': is a line's length not 4? -/
theorem check1_calls (A : Option Addr) (n c : Nat) (b : Bool) (hb : ((n : Int) != 4) = b) (w : World) :
    Calls Try.prog 37 #[.slice A n c] w fun e w' => e = .returned (.bool b) ∧ w = w' := by
  go_enter Try.func37, Try.ntmps37
  go_wp2
  go_ret
  exact ⟨by rw [← hb]; rfl, rfl⟩

def firstBad : List (List Int) → Nat
  | [] => 0
  | r :: rs => if r.length = 4 then firstBad rs + 1 else 0
theorem firstBad_le (l : List (List Int)) : firstBad l ≤ l.length := by
  induction l with
  | nil => simp [firstBad]
  | cons r rs ih => unfold firstBad; split <;> simp <;> omega
theorem firstBad_good : ∀ (l : List (List Int)) (k : Nat), k < firstBad l → (l.getD k []).length = 4
  | [], k, h => by simp [firstBad] at h
  | r :: rs, k, h => by
    unfold firstBad at h
    split at h
    · cases k with
      | zero => simpa
      | succ k => simpa using firstBad_good rs k (by omega)
    · omega
theorem firstBad_bad : ∀ (l : List (List Int)), firstBad l < l.length → (l.getD (firstBad l) []).length ≠ 4
  | [], h => by simp [firstBad] at h
  | r :: rs, h => by
    unfold firstBad at h ⊢
    split
    · rename_i hr
      rw [if_pos hr] at h
      simpa using firstBad_bad rs (by simpa using h)
    · simpa
theorem firstBad_all (l : List (List Int)) : firstBad l = l.length ↔ ∀ r ∈ l, r.length = 4 := by
  induction l with
  | nil => simp [firstBad]
  | cons r rs ih =>
    unfold firstBad
    split
    · rename_i hr
      simp [hr, ih]
    · rename_i hr
      simp [hr]

set_option maxHeartbeats 1000000 in
theorem index_calls (A0 : Option Addr) (c0 : Nat) (l0 : List (List Int)) (w : World) (hr0 : Kd.C (Kd.slice 5 (Kd.int .u8)) w A0 l0.length l0) :
    Calls Try.prog 48 #[.slice A0 l0.length c0, .func (.func 37) #[] #[]] w fun e w' => e = .returned (.int .i64 (if firstBad l0 < l0.length then (firstBad l0 : Int) else -1)) ∧ w = w' := by
  have hm : l0.length ≤ 9223372036854775807 := hr0.2.1
  have hle := firstBad_le l0
  have HR := Aside0.mk hr0
  clear hr0
  go_enter Try.func48, Try.ntmps48
  go_wp2
  go_loop [8] (fun i => ∃ k : Nat, k ≤ firstBad l0 ∧ i = .int .i64 k) (fun i => l0.length - (intOf i).toNat)
  case atStart => exact ⟨0, Nat.zero_le _, rfl⟩
  case round =>
    obtain ⟨k, hk, rfl⟩ := hrel
    by_cases hlt : k < l0.length
    · obtain ⟨ad, A1, c1, e, hcell, _, _⟩ := at_L3 HR.out (k : Int) (by omega) (by omega)
      cases e
      rw [Int.toNat_natCast] at hcell
      by_cases hf : k < firstBad l0
      · have hb : (((rd_L3 l0 k).length : Int) != 4) = false := by
          have := firstBad_good l0 k hf
          unfold rd_L3
          simp only [Int.toNat_natCast]
          rw [this]; rfl
        generalize hn : (rd_L3 l0 k).length = n at hb hcell
        clear hn
        go_wp2_with (go_at_call 37; refine (check1_calls _ _ _ false hb _).mono ?_; rintro e w' ⟨rfl, rfl⟩)
        go_round
        case rel => exact ⟨k + 1, by omega, by go_num⟩
        case measure => simp [intOf]; omega
      · obtain rfl : k = firstBad l0 := by omega
        have hb : (((rd_L3 l0 (firstBad l0)).length : Int) != 4) = true := by
          have := firstBad_bad l0 hlt
          unfold rd_L3
          simp only [Int.toNat_natCast]
          rw [bne_iff_ne]; omega
        generalize hn : (rd_L3 l0 (firstBad l0)).length = n at hb hcell
        clear hn
        go_wp2_with (go_at_call 37; refine (check1_calls _ _ _ true hb _).mono ?_; rintro e w' ⟨rfl, rfl⟩)
        go_ret
        exact ⟨by first | rfl | (rw [if_pos hlt]; rfl), rfl⟩
    · go_wp2
      go_ret
      exact ⟨by first | rfl | (rw [if_neg (by omega)]; rfl), rfl⟩

theorem contains_calls (A0 : Option Addr) (c0 : Nat) (l0 : List (List Int)) (b : Bool) (hb : decide (firstBad l0 < l0.length) = b) (w : World) (hr0 : Kd.C (Kd.slice 5 (Kd.int .u8)) w A0 l0.length l0) :
    Calls Try.prog 36 #[.slice A0 l0.length c0, .func (.func 37) #[] #[]] w fun e w' => e = .returned (.bool b) ∧ w = w' := by
  have HI := index_calls A0 c0 l0 w hr0
  clear hr0
  obtain ⟨j, hj⟩ : ∃ j : Int, j = if firstBad l0 < l0.length then (firstBad l0 : Int) else -1 := ⟨_, rfl⟩
  rw [← hj] at HI
  have hjb : decide (0 ≤ j) = b := by
    rw [← hb, hj]
    by_cases h : firstBad l0 < l0.length
    · rw [if_pos h]; simp [h]
    · rw [if_neg h]; simp [h]
  have H := Aside0.mk HI
  clear HI hb hj
  cases b
  all_goals
    go_enter Try.func36, Try.ntmps36
    go_wp2_with (go_at_call 48; refine H.out.mono ?_; rintro e w' ⟨rfl, rfl⟩)
    go_ret
    exact ⟨by first | rfl | (simp; done), rfl⟩

/-- is it a grid? -/
def isGrid (l0 : List (List Int)) : Bool := l0.length == 4 && l0.all (fun r => r.length == 4)
theorem isGrid_iff (l0 : List (List Int)) : isGrid l0 = true ↔ l0.length = 4 ∧ firstBad l0 = l0.length := by
  rw [firstBad_all]; simp [isGrid]
def cross_Check.f (l0 : List (List Int)) : Option Int := some (if isGrid l0 then 0 else 1)

set_option maxHeartbeats 1000000 in
theorem cross_Check.same (A0 : Option Addr) (c0 : Nat) (l0 : List (List Int)) (r : Int) (w : World) (hr0 : Kd.C (Kd.slice 5 (Kd.int .u8)) w A0 l0.length l0) (h : cross_Check.f l0 = some r) :
    Calls Try.prog 16 #[.slice A0 l0.length c0] w fun e w' => e = .returned (.int .i64 r) ∧ w = w' := by
  have hi := isGrid_iff l0
  have hle := firstBad_le l0
  have hrr : r = if isGrid l0 then 0 else 1 := by simpa [cross_Check.f] using h.symm
  clear h
  have HR := Aside0.mk hr0
  clear hr0
  by_cases h4 : l0.length = 4
  · have c4 : ((l0.length : Int) != 4) = false := by rw [h4]; rfl
    by_cases hf : firstBad l0 < l0.length
    · obtain rfl : r = 1 := by rw [hrr, if_neg]; rw [hi]; omega
      have hd : decide (firstBad l0 < l0.length) = true := by simpa using hf
      clear hi hrr h4 hf
      go_enter Try.func16, Try.ntmps16
      go_wp2_with (go_at_call 36; refine (contains_calls _ _ _ true hd _ HR.out).mono ?_; rintro e w' ⟨rfl, rfl⟩)
      go_ret
      exact ⟨rfl, rfl⟩
    · obtain rfl : r = 0 := by rw [hrr, if_pos]; rw [hi]; omega
      have hd : decide (firstBad l0 < l0.length) = false := by simpa using hf
      clear hi hrr h4 hf
      go_enter Try.func16, Try.ntmps16
      go_wp2_with (go_at_call 36; refine (contains_calls _ _ _ false hd _ HR.out).mono ?_; rintro e w' ⟨rfl, rfl⟩)
      go_ret
      exact ⟨rfl, rfl⟩
  · obtain rfl : r = 1 := by rw [hrr, if_neg]; rw [hi]; omega
    have c4 : ((l0.length : Int) != 4) = true := by rw [bne_iff_ne]; omega
    clear hi hrr h4
    go_enter Try.func16, Try.ntmps16
    go_wp2
    go_ret
    exact ⟨rfl, rfl⟩
theorem cross_Check.calls (A0 : Option Addr) (c0 : Nat) (l0 : List (List Int)) (r : Int) (w : World) (hr0 : Kd.C (Kd.slice 5 (Kd.int .u8)) w A0 l0.length l0) (_hc0 : l0.length ≤ c0) (h : cross_Check.f l0 = some r) :
    Calls Try.prog 16 #[.slice A0 l0.length c0] w fun e w' => e = .returned (.int .i64 r) ∧ Drawn0 w w' :=
  (cross_Check.same A0 c0 l0 r w hr0 h).mono fun _ _ ⟨he, hw⟩ => ⟨he, hw ▸ Drawn0.refl _⟩
end Go.Proofs.Ytpgakpeodddnkaa.C
