/- Code, told plainly: the machine comes to what is told. -/
import Derived.Test.YtopannfdcikgiaaSy16
namespace Go.Proofs.Ytopannfdcikgiaa.Sy
open Go Go.RowKit
section sound
variable {P : Program} {n : Nat} {w0 w1 : World} {ρ0 : Rho} {σ0 : St}
def Ex.go : Ex → Exit
  | .nxt => .normal
  | .ext id => .exit id
  | .ret => .ret
noncomputable def leastOf (p : Nat → Prop) : Nat := @dite _ (∃ m, p m) (Classical.propDecidable _) (fun h => Classical.choose (least_of h)) (fun _ => 0)
theorem leastOf_spec {p : Nat → Prop} (h : ∃ m, p m) : p (leastOf p) := by
  unfold leastOf
  rw [dif_pos h]
  exact (Classical.choose_spec (least_of h)).1
theorem leastOf_le {p : Nat → Prop} {k : Nat} (hk : p k) : leastOf p ≤ k := by
  have h : ∃ m, p m := ⟨k, hk⟩
  unfold leastOf
  rw [dif_pos h]
  exact (Classical.choose_spec (least_of h)).2 k hk
/-- What the plain telling promises of code, the machine keeps. -/
theorem vc_sound : ∀ {c : Code} {d : Cd}, comp P n c = some d → ∀ {Q : Ex → Env → St → Prop} {QQ : Exit → Act → World → Prop} {env : Env} {σ : St} {ρ : Rho} {a : Act} {w : World}, vc P d Q env σ → At n w0 ρ0 σ0 w1 env σ ρ a w →
    (∀ e env' σ' ρ' a' w', Q e env' σ' → At n w0 ρ0 σ0 w1 env' σ' ρ' a' w' → QQ e.go a' w') → c.wp P QQ a w := by
  intro c
  induction c with
  | skip =>
    intro d hd Q QQ env σ ρ a w hv hA hQ
    cases hd
    exact wp_skip (hQ .nxt env σ ρ a w hv hA)
  | region id ops draw =>
    intro d hd Q QQ env σ ρ a w hv hA hQ
    cases draw with
    | true =>
      simp only [comp] at hd
      split at hd
      · rename_i hok
        obtain ⟨os, hos, rfl⟩ := Option.map_eq_some_iff.1 hd
        rw [Bool.and_eq_true] at hok
        exact drw_sound hok.1 hok.2 hos hv hA fun env' σ' ρ' a' w' hk hA' => hQ .nxt env' σ' ρ' a' w' hk hA'
      · cases hd
    | false =>
      obtain ⟨os, hos, rfl⟩ := Option.map_eq_some_iff.1 hd
      exact wp_region (ops_sound (range_all2 hos) hv hA fun env' σ' ρ' a' w' hk hA' => hQ .nxt env' σ' ρ' a' w' hk hA')
  | seq x y ihx ihy =>
    intro d hd Q QQ env σ ρ a w hv hA hQ
    obtain ⟨dx, hx, hd⟩ := Option.bind_eq_some_iff.1 hd
    obtain ⟨dy, hy, rfl⟩ := Option.map_eq_some_iff.1 hd
    refine wp_seq (ihx hx hv hA fun e env' σ' ρ' a' w' hk hA' => ?_)
    cases e with
    | nxt => exact ihy hy hk hA' hQ
    | ext j => exact hQ (.ext j) env' σ' ρ' a' w' hk hA'
    | ret => exact hQ .ret env' σ' ρ' a' w' hk hA'
  | cond c x y ihx ihy =>
    intro d hd Q QQ env σ ρ a w hv hA hQ
    obtain ⟨c', hc, hd⟩ := Option.bind_eq_some_iff.1 hd
    obtain ⟨dx, hx, hd⟩ := Option.bind_eq_some_iff.1 hd
    obtain ⟨dy, hy, rfl⟩ := Option.map_eq_some_iff.1 hd
    obtain ⟨t, ht, h1, h2⟩ := hv
    have hcr := opd_rel hc hA.env
    have hcb := bit_rel hcr
    rw [ht] at hcb
    have hce : a.eval c = .bool t := by
      cases hu : a.eval c <;> rw [hu] at hcb <;> simp only [vbit, Option.some.injEq, reduceCtorEq] at hcb
      rw [hcb]
    exact wp_cond_split hce (fun e => ihx hx (h1 e) hA hQ) (fun e => ihy hy (h2 e) hA hQ)
  | block id x ih =>
    intro d hd Q QQ env σ ρ a w hv hA hQ
    obtain ⟨dx, hx, rfl⟩ := Option.map_eq_some_iff.1 hd
    refine wp_block (ih hx hv hA fun e env' σ' ρ' a' w' hk hA' => ?_)
    cases e with
    | nxt => exact hQ .nxt env' σ' ρ' a' w' hk hA'
    | ext j =>
      simp only [Ex.go, Exit.inBlock]
      simp only at hk
      by_cases hj : j = id
      · rw [if_pos hj] at hk
        rw [if_pos hj]
        exact hQ .nxt env' σ' ρ' a' w' hk hA'
      · rw [if_neg hj] at hk
        rw [if_neg hj]
        exact hQ (.ext j) env' σ' ρ' a' w' hk hA'
    | ret => exact hQ .ret env' σ' ρ' a' w' hk hA'
  | loop x ih =>
    intro d hd Q QQ env σ ρ a w hv hA hQ
    obtain ⟨dx, hx, rfl⟩ := Option.map_eq_some_iff.1 hd
    obtain ⟨I, μ, hI, hstep⟩ := hv
    let J : Act → World → Nat → Prop := fun a w m => ∃ env σ ρ, I env σ ∧ At n w0 ρ0 σ0 w1 env σ ρ a w ∧ μ env σ = m
    refine wp_loop (fun a w => ∃ m, J a w m) (fun a w => leastOf (J a w)) ⟨_, env, σ, ρ, hI, hA, rfl⟩ fun a w hJ => ?_
    obtain ⟨env, σ, ρ, hI, hA, hm⟩ := leastOf_spec hJ
    refine ih hx (hstep env σ hI) hA fun e env' σ' ρ' a' w' hk hA' => ?_
    cases e with
    | nxt => exact ⟨⟨_, env', σ', ρ', hk.1, hA', rfl⟩, Nat.lt_of_le_of_lt (leastOf_le ⟨env', σ', ρ', hk.1, hA', rfl⟩) (by rw [← hm]; exact hk.2)⟩
    | ext j => exact hQ (.ext j) env' σ' ρ' a' w' hk hA'
    | ret => exact hQ .ret env' σ' ρ' a' w' hk hA'
  | exit id =>
    intro d hd Q QQ env σ ρ a w hv hA hQ
    cases hd
    exact wp_exit (hQ (.ext id) env σ ρ a w hv hA)
  | ret =>
    intro d hd Q QQ env σ ρ a w hv hA hQ
    cases hd
    exact wp_ret (hQ .ret env σ ρ a w hv hA)
  | _ => intro d hd; cases hd
end sound
end Go.Proofs.Ytopannfdcikgiaa.Sy
