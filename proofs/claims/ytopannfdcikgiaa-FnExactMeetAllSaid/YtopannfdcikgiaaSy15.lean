/- Words for contracts. -/
import Derived.Test.YtopannfdcikgiaaSy14
namespace Go.Proofs.Ytopannfdcikgiaa.Sy
open Go Go.RowKit
def isOut : Ex → Bool
  | .ext _ => false
  | _ => true
theorem isOut_ne {e : Ex} (h : isOut e = true) : ∀ j, e ≠ .ext j := by
  intro j hj
  subst hj
  cases h
section fns
variable {P : Program}
/-- A function that leaves memory as it is, as far as its caller can see. -/
theorem ret_eq {f : Nat} {F : Fn1} {args : List GV} {σ : St} {r : GV} (hF : compFn P f = some F) (hl : args.length ≤ F.n) (hr : vLt σ.length r)
    (h : vc P F.c (fun e env τ => isOut e = true ∧ resG env τ F.rs = some r ∧ σ <+: τ) (env0 args) σ) : Ret P f args σ r σ := by
  obtain ⟨r', τ, hR, rfl, hp⟩ := fn_ret (Post := fun r' τ => r' = r ∧ σ <+: τ) hF hl (vc_mono h fun e env τ he => ⟨isOut_ne he.1, he.2.2.length_le, r, he.2.1, rfl, he.2.2⟩)
  exact hR.trunc hp hr
/-- A function that writes what it is handed. -/
theorem ret_mut {f : Nat} {F : Fn1} {args : List GV} {σ : St} {Post : GV → St → Prop} (hF : compFn P f = some F) (hl : args.length ≤ F.n)
    (h : vc P F.c (fun e env τ => isOut e = true ∧ ∃ r, resG env τ F.rs = some r ∧ σ.length ≤ τ.length ∧ Post r τ) (env0 args) σ) : ∃ r τ, Ret P f args σ r τ ∧ Post r τ :=
  fn_ret (Post := Post) hF hl (vc_mono h fun e env τ he => by
    obtain ⟨ho, r, hr, hp, hq⟩ := he
    exact ⟨isOut_ne ho, hp, r, hr, hq⟩)
/-- The same, of what comes some is told. -/
theorem ret_ex {f : Nat} {F : Fn1} {args : List GV} {σ : St} {Post : GV → Prop} (hF : compFn P f = some F) (hl : args.length ≤ F.n)
    (h : vc P F.c (fun e env τ => isOut e = true ∧ ∃ r, resG env τ F.rs = some r ∧ σ <+: τ ∧ vLt σ.length r ∧ Post r) (env0 args) σ) : ∃ r, Ret P f args σ r σ ∧ Post r := by
  obtain ⟨r, τ, hR, hp, hlt, hq⟩ := fn_ret (Post := fun r τ => σ <+: τ ∧ vLt σ.length r ∧ Post r) hF hl (vc_mono h fun e env τ he => by
    obtain ⟨ho, r, hr, hp, hlt, hq⟩ := he
    exact ⟨isOut_ne ho, hp.length_le, r, hr, hp, hlt, hq⟩)
  exact ⟨r, hR.trunc hp hlt, hq⟩
/-- A function that hands back something new. -/
theorem ret_new {f : Nat} {F : Fn1} {args : List GV} {σ : St} {Post : GV → St → Prop} (hF : compFn P f = some F) (hl : args.length ≤ F.n)
    (h : vc P F.c (fun e env τ => isOut e = true ∧ ∃ r, resG env τ F.rs = some r ∧ σ <+: τ ∧ Post r τ) (env0 args) σ) : ∃ r τ, Ret P f args σ r τ ∧ σ <+: τ ∧ Post r τ := by
  obtain ⟨r', τ, hR, hp⟩ := fn_ret (Post := fun r τ => σ <+: τ ∧ Post r τ) hF hl (vc_mono h fun e env τ he => by
    obtain ⟨ho, r, hr, hp, hq⟩ := he
    exact ⟨isOut_ne ho, hp.length_le, r, hr, hp, hq⟩)
  exact ⟨r', τ, hR, hp⟩
end fns
@[go_sem] def o (d : Nat) (i : Ins) : Op1 := ⟨some d, none, i⟩
@[go_sem] def og (d g : Nat) (b : Bool) (i : Ins) : Op1 := ⟨some d, some (g, b), i⟩
@[go_sem] def on (i : Ins) : Op1 := ⟨none, none, i⟩
@[go_sem] def ong (g : Nat) (b : Bool) (i : Ins) : Op1 := ⟨none, some (g, b), i⟩
abbrev gi (n : Int) : GV := .int .i64 n
/-- A loop, by what stays true. -/
theorem vc_lop {P : Program} {a : Cd} {Q : Ex → Env → St → Prop} {env : Env} {σ : St} (I : Nat → Env → St → Prop) (n : Nat) (h0 : I n env σ)
    (hs : ∀ k env σ, I k env σ → vc P a (fun e env' σ' => match e with | .nxt => ∃ k', k' < k ∧ I k' env' σ' | e => Q e env' σ') env σ) : vc P (.lop a) Q env σ := by
  let J : Env → St → Nat → Prop := fun env σ k => I k env σ
  refine ⟨fun env σ => ∃ k, J env σ k, fun env σ => leastOf (J env σ), ⟨n, h0⟩, fun env σ hk => ?_⟩
  refine vc_mono (hs (leastOf (J env σ)) env σ (leastOf_spec hk)) fun e env' σ' he => ?_
  cases e with
  | nxt =>
    obtain ⟨k', hlt, hI⟩ := he
    exact ⟨⟨k', hI⟩, Nat.lt_of_le_of_lt (leastOf_le (p := J env' σ') hI) hlt⟩
  | ext j => exact he
  | ret => exact he
abbrev Kt := Env → St → Prop
def bindV (D : Bool) (v : Option GV) (P : Program) (r : List Op1) (K : Kt) (env : Env) (d : Option Nat) (σ : St) : Prop := match v with
  | some v => vcOps D P r K (upo env d v) σ
  | none => False
def bindP (D : Bool) (σ : St) (v : Option (GV × St)) (P : Program) (r : List Op1) (K : Kt) (env : Env) (d : Option Nat) : Prop := match v with
  | some v => (D = true → σ <+: v.2) ∧ vcOps D P r K (upo env d v.1) v.2
  | none => False
def bindC (D : Bool) (f : Nat) (args : List GV) (P : Program) (r : List Op1) (K : Kt) (env : Env) (d : Option Nat) (σ : St) : Prop := ∃ v σ', Ret P f args σ v σ' ∧ (D = true → σ <+: σ') ∧ vcOps D P r K (upo env d v) σ'
def bindF (D : Bool) (v : GV) (args : List GV) (P : Program) (r : List Op1) (K : Kt) (env : Env) (d : Option Nat) (σ : St) : Prop := match v with
  | .fn f caps => bindC D f (args ++ caps.map fun c => .ptr c.1 c.2) P r K env d σ
  | _ => False
def bindG (D : Bool) (c : Option Bool) (b : Bool) (P : Program) (d : Option Nat) (i : Ins) (r : List Op1) (K : Kt) (env : Env) (σ : St) : Prop := match c with
  | some c => (c = b → vcOps D P (⟨d, none, i⟩ :: r) K env σ) ∧ (c = !b → vcOps D P r K (upo env d (.tup [])) σ)
  | none => vcOps D P r K (upo env d (.tup [])) σ
def bindIf (c : Option Bool) (P : Program) (a b : Cd) (Q : Ex → Env → St → Prop) (env : Env) (σ : St) : Prop := match c with
  | some c => (c = true → vc P a Q env σ) ∧ (c = false → vc P b Q env σ)
  | none => False
section eqs
variable {P : Program} {env : Env} {σ : St} {K : Kt} {r : List Op1} {d : Option Nat} {D : Bool}
@[go_sem] theorem bindV_some {v : GV} : bindV D (some v) P r K env d σ = vcOps D P r K (upo env d v) σ := (rfl)
@[go_sem] theorem bindP_some {v : GV} {σ' : St} : bindP D σ (some (v, σ')) P r K env d = ((D = true → σ <+: σ') ∧ vcOps D P r K (upo env d v) σ') := (rfl)
@[go_sem] theorem bindF_fn {f : Nat} {caps : List (Nat × Nat)} {args : List GV} : bindF D (.fn f caps) args P r K env d σ = bindC D f (args ++ caps.map fun c => .ptr c.1 c.2) P r K env d σ := (rfl)
@[go_sem] theorem bindG_tt {b : Bool} {i : Ins} : bindG D (some b) b P d i r K env σ = vcOps D P (⟨d, none, i⟩ :: r) K env σ := by
  cases b <;> simp [bindG]
@[go_sem] theorem bindG_tf {i : Ins} : bindG D (some true) false P d i r K env σ = vcOps D P r K (upo env d (.tup [])) σ := by simp [bindG]
@[go_sem] theorem bindG_ft {i : Ins} : bindG D (some false) true P d i r K env σ = vcOps D P r K (upo env d (.tup [])) σ := by simp [bindG]
@[go_sem] theorem bindG_none {b : Bool} {i : Ins} : bindG D none b P d i r K env σ = vcOps D P r K (upo env d (.tup [])) σ := (rfl)
@[go_sem low] theorem bindG_true {c : Bool} {i : Ins} : bindG D (some c) true P d i r K env σ = ((c = true → vcOps D P (⟨d, none, i⟩ :: r) K env σ) ∧ (c = false → vcOps D P r K (upo env d (.tup [])) σ)) := (rfl)
@[go_sem low] theorem bindG_false {c : Bool} {i : Ins} : bindG D (some c) false P d i r K env σ = ((c = true → vcOps D P r K (upo env d (.tup [])) σ) ∧ (c = false → vcOps D P (⟨d, none, i⟩ :: r) K env σ)) := by
  simp only [bindG, Bool.not_false]
  exact propext And.comm
@[go_sem] theorem bindIf_true {a b : Cd} {Q : Ex → Env → St → Prop} : bindIf (some true) P a b Q env σ = vc P a Q env σ := by simp [bindIf]
@[go_sem] theorem bindIf_false {a b : Cd} {Q : Ex → Env → St → Prop} : bindIf (some false) P a b Q env σ = vc P b Q env σ := by simp [bindIf]
@[go_sem low] theorem bindIf_some {c : Bool} {a b : Cd} {Q : Ex → Env → St → Prop} : bindIf (some c) P a b Q env σ = ((c = true → vc P a Q env σ) ∧ (c = false → vc P b Q env σ)) := (rfl)
@[go_sem] theorem vcOps_nil : vcOps D P [] K env σ = K env σ := (rfl)
@[go_sem] theorem vcOps_g {g : Nat} {b : Bool} {i : Ins} : vcOps D P (⟨d, some (g, b), i⟩ :: r) K env σ = bindG D (env g).bit b P d i r K env σ := by
  cases hc : (env g).bit with
  | none =>
    have hw : wantedG env (some (g, b)) = false := by simp [wantedG, hc]
    simp [vcOps, hw, bindG]
  | some c =>
    have hw : wantedG env (some (g, b)) = (c == b) := by simp [wantedG, hc]
    have hn : wantedG env none = true := rfl
    cases c <;> cases b <;> simp [vcOps, hw, hn, bindG]
theorem vcOps_x {i : Ins} (h : i.isCall = false) : vcOps D P (⟨d, none, i⟩ :: r) K env σ = bindP D σ (exec env σ i) P r K env d := by
  apply propext
  simp only [vcOps, wantedG, if_true]
  constructor
  · rintro ⟨v, σ', hs, hp, hk⟩
    rw [step_exec h hs]; exact ⟨hp, hk⟩
  · intro hk
    cases he : exec env σ i with
    | none => rw [he] at hk; exact hk.elim
    | some q =>
      obtain ⟨v, σ'⟩ := q
      rw [he] at hk
      exact ⟨v, σ', (by cases i <;> first | exact he | cases h), hk.1, hk.2⟩
theorem bindP_map {v : Option GV} : bindP D σ (v.map fun v => (v, σ)) P r K env d = bindV D v P r K env d σ := by cases v <;> simp [bindP, bindV]
@[go_sem] theorem vi_mov {x : Opd} : vcOps D P (⟨d, none, .mov x⟩ :: r) K env σ = vcOps D P r K (upo env d (x.ev env)) σ := by rw [vcOps_x rfl]; simp [exec, bindP]
@[go_sem] theorem vi_pick {c a b : Opd} : vcOps D P (⟨d, none, .pick c a b⟩ :: r) K env σ = bindV D ((c.ev env).bit.map fun t => if t then a.ev env else b.ev env) P r K env d σ := by
  rw [vcOps_x rfl]
  simp only [exec]
  cases (c.ev env).bit <;> simp [bindP, bindV]
@[go_sem] theorem vi_new {cs : List GV} : vcOps D P (⟨d, none, .new cs⟩ :: r) K env σ = vcOps D P r K (upo env d (.ptr σ.length 0)) (σ ++ [some (.row 1 cs)]) := by rw [vcOps_x rfl]; simp [exec, bindP]
@[go_sem] theorem vi_box {x : Opd} : vcOps D P (⟨d, none, .box x⟩ :: r) K env σ = vcOps D P r K (upo env d (.ptr σ.length 0)) (σ ++ [some (.row 1 (x.ev env).cells)]) := by rw [vcOps_x rfl]; simp [exec, bindP]
@[go_sem] theorem vi_build {z : List GV} {ps : List (Nat × Nat × Opd)} : vcOps D P (⟨d, none, .build z ps⟩ :: r) K env σ = bindV D ((fillG z (ps.map fun p => (p.1, p.2.1, p.2.2.ev env))).map .agg) P r K env d σ := by
  rw [vcOps_x rfl]
  simp only [exec]
  cases (fillG z (ps.map fun p => (p.1, p.2.1, p.2.2.ev env))) <;> simp [bindP, bindV]
@[go_sem] theorem vi_lit {z l : Nat} {ze : List GV} {ps : List (Nat × Nat × Opd)} : vcOps D P (⟨d, none, .lit z l ze ps⟩ :: r) K env σ = bindP D σ ((fillG ze (ps.map fun p => (p.1, p.2.1, p.2.2.ev env))).map fun cs => (.sl σ.length 0 l, σ ++ [some (.row z cs)])) P r K env d := vcOps_x rfl
def ldG (g : Bool) (n : Nat) (σ : St) : GV → Option GV
  | .ptr b off => (rdB σ b).bind fun cs => (seg cs off n).bind (mkv g)
  | _ => none
@[go_sem] theorem vi_ld {g : Bool} {n : Nat} {a : Opd} : vcOps D P (⟨d, none, .ld g n a⟩ :: r) K env σ = bindV D (ldG g n σ (a.ev env)) P r K env d σ := by
  rw [vcOps_x rfl]
  simp only [exec]
  cases a.ev env with
  | ptr b off =>
    simp only [ptrG, Option.bind_some, ldG]
    cases h2 : rdB σ b with
    | none => rfl
    | some cs =>
      simp only [Option.bind_some]
      cases h3 : seg cs off n with
      | none => rfl
      | some r => simp only [Option.bind_some, bindP_map]
  | _ => rfl
def stG (n : Nat) (σ : St) : GV → GV → Option (GV × St)
  | .ptr b off, x => match σ[b]? with
    | some (some (.row z cs)) => if off + n ≤ cs.length ∧ 0 < n ∧ x.cells.length = n then some (.tup [], σ.set b (some (.row z (splice cs off x.cells)))) else none
    | _ => none
  | _, _ => none
@[go_sem] theorem vi_st {n : Nat} {a x : Opd} : vcOps D P (⟨d, none, .st n a x⟩ :: r) K env σ = bindP D σ (stG n σ (a.ev env) (x.ev env)) P r K env d := by
  rw [vcOps_x rfl]
  simp only [exec]
  cases a.ev env <;> rfl
@[go_sem] theorem vi_nck {x : Opd} : vcOps D P (⟨d, none, .nck x⟩ :: r) K env σ = bindV D (nckG (x.ev env)) P r K env d σ := by rw [vcOps_x rfl]; simp only [exec, bindP_map]
@[go_sem] theorem vi_bin {op : BinOp} {x y : Opd} : vcOps D P (⟨d, none, .bin op x y⟩ :: r) K env σ = bindV D (binG op (x.ev env) (y.ev env)) P r K env d σ := by rw [vcOps_x rfl]; simp only [exec, bindP_map]
def eqbG (n : Bool) (x y : GV) : Option GV := x.bit.bind fun a => y.bit.map fun b => .bool (n ^^ (a == b))
@[go_sem] theorem vi_eqb {n : Bool} {x y : Opd} : vcOps D P (⟨d, none, .eqb n x y⟩ :: r) K env σ = bindV D (eqbG n (x.ev env) (y.ev env)) P r K env d σ := by
  rw [vcOps_x rfl]
  simp only [exec, eqbG]
  cases (x.ev env).bit with
  | none => rfl
  | some a => cases (y.ev env).bit <;> simp [bindP, bindV, eqbG]
@[go_sem] theorem vi_eqn {p n : Bool} {x y : Opd} : vcOps D P (⟨d, none, .eqn p n x y⟩ :: r) K env σ = bindV D ((nilG p (x.ev env) (y.ev env)).map fun b => .bool (n ^^ b)) P r K env d σ := by
  rw [vcOps_x rfl]
  simp only [exec]
  cases nilG p (x.ev env) (y.ev env) <;> simp [bindP, bindV]
def eqsG (n : Bool) (ks : List Sc) : GV → GV → Option GV
  | .agg xs, .agg ys => (scsEq ks xs ys).map fun b => .bool (n ^^ b)
  | _, _ => none
@[go_sem] theorem vi_eqs {n : Bool} {ks : List Sc} {x y : Opd} : vcOps D P (⟨d, none, .eqs n ks x y⟩ :: r) K env σ = bindV D (eqsG n ks (x.ev env) (y.ev env)) P r K env d σ := by
  rw [vcOps_x rfl]
  simp only [exec]
  cases x.ev env <;> first | rfl | skip
  cases y.ev env <;> first | rfl | skip
  simp only [eqsG]
  cases scsEq ks _ _ <;> simp [bindP, bindV, eqsG]
@[go_sem] theorem vi_un {op : UnOp} {x : Opd} : vcOps D P (⟨d, none, .un op x⟩ :: r) K env σ = bindV D (unG op (x.ev env)) P r K env d σ := by rw [vcOps_x rfl]; simp only [exec, bindP_map]
def cviG (k : IntKind) : GV → Option GV
  | .int _ n => some (.int k (k.wrap n))
  | _ => none
@[go_sem] theorem vi_cvi {k : IntKind} {x : Opd} : vcOps D P (⟨d, none, .cvi k x⟩ :: r) K env σ = bindV D (cviG k (x.ev env)) P r K env d σ := by
  rw [vcOps_x rfl]
  simp only [exec]
  cases x.ev env <;> simp [bindP, bindV, cviG]
@[go_sem] theorem vi_bts {x : Opd} : vcOps D P (⟨d, none, .bts x⟩ :: r) K env σ = bindV D ((elems σ 1 (x.ev env)).bind fun r => (bytesOf r.2).map fun bs => .str ⟨bs.toArray⟩) P r K env d σ := by
  rw [vcOps_x rfl]
  simp only [exec]
  cases elems σ 1 (x.ev env) with
  | none => rfl
  | some q =>
    simp only [Option.bind_some]
    cases bytesOf q.2 <;> simp [bindP, bindV]
@[go_sem] theorem vi_mkf {f : Nat} {cs : List Opd} : vcOps D P (⟨d, none, .mkf f cs⟩ :: r) K env σ = bindV D ((cs.mapM fun c => capOf (c.ev env)).map fun cs => .fn f cs) P r K env d σ := by
  rw [vcOps_x rfl]
  simp only [exec]
  cases cs.mapM fun c => capOf (c.ev env) <;> simp [bindP, bindV]
def mksG (z b : Nat) (ze : List GV) (σ : St) : Option Nat → Option Nat → Option (GV × St)
  | some n, some c => if n = c ∧ n * b ≤ 140737488355328 then some (.sl σ.length 0 n, σ ++ [some (.row z (reps n ze))]) else none
  | _, _ => none
@[go_sem] theorem vi_mks {z b : Nat} {ze : List GV} {n c : Opd} : vcOps D P (⟨d, none, .mks z b ze n c⟩ :: r) K env σ = bindP D σ (mksG z b ze σ (natOf (some (n.ev env))) (natOf (some (c.ev env)))) P r K env d := by
  rw [vcOps_x rfl]
  simp only [exec]
  cases natOf (some (n.ev env)) with
  | none => rfl
  | some n => cases natOf (some (c.ev env)) <;> rfl
@[go_sem] theorem vi_cutS {x : Opd} {lo hi : Option Opd} : vcOps D P (⟨d, none, .cutS x lo hi⟩ :: r) K env σ = bindV D (cutSG (x.ev env) (lo.map (·.ev env)) (hi.map (·.ev env))) P r K env d σ := by rw [vcOps_x rfl]; simp only [exec, bindP_map]
@[go_sem] theorem vi_cut {z : Nat} {x : Opd} {lo hi : Option Opd} : vcOps D P (⟨d, none, .cut z x lo hi⟩ :: r) K env σ = bindV D (if zOk σ z (x.ev env) then cutG z (x.ev env) (lo.map (·.ev env)) (hi.map (·.ev env)) else none) P r K env d σ := by
  rw [vcOps_x rfl]
  simp only [exec]
  split
  · rw [bindP_map]
  · rfl
def fadG (n : Nat) : GV → Option GV
  | .ptr g off => some (.ptr g (off + n))
  | _ => none
@[go_sem] theorem vi_fad {n : Nat} {a : Opd} : vcOps D P (⟨d, none, .fad n a⟩ :: r) K env σ = bindV D (fadG n (a.ev env)) P r K env d σ := by
  rw [vcOps_x rfl]
  simp only [exec]
  cases a.ev env <;> simp [bindP, bindV, fadG, ptrG]
def partV (g : Bool) (off n : Nat) : GV → Option GV
  | .agg cs => (seg cs off n).bind (mkv g)
  | _ => none
@[go_sem] theorem vi_part {g : Bool} {off n : Nat} {x : Opd} : vcOps D P (⟨d, none, .part g off n x⟩ :: r) K env σ = bindV D (partV g off n (x.ev env)) P r K env d σ := by
  rw [vcOps_x rfl]
  simp only [exec]
  cases x.ev env with
  | agg cs =>
    simp only [partV]
    cases seg cs off n with
    | none => rfl
    | some q => simp only [Option.bind_some, bindP_map]
  | _ => rfl
def iadG (z : Nat) : GV → Option Nat → Option GV
  | .sl g off len, some i => if i < len then some (.ptr g (off + i * z)) else none
  | _, _ => none
@[go_sem] theorem vi_iad {z : Nat} {x i : Opd} : vcOps D P (⟨d, none, .iad z x i⟩ :: r) K env σ = bindV D (iadG z (x.ev env) (natOf (some (i.ev env)))) P r K env d σ := by
  rw [vcOps_x rfl]
  simp only [exec]
  cases x.ev env with
  | sl g off len =>
    simp only
    cases natOf (some (i.ev env)) with
    | none => rfl
    | some n =>
      simp only [Option.bind_some, iadG]
      split <;> simp [bindP, bindV, iadG]
  | _ => rfl
def idxG : GV → Option Nat → Option GV
  | .str s, some i => (s[i]?).map fun b => .int .u8 b.toNat
  | _, _ => none
@[go_sem] theorem vi_idx {x i : Opd} : vcOps D P (⟨d, none, .idx x i⟩ :: r) K env σ = bindV D (idxG (x.ev env) (natOf (some (i.ev env)))) P r K env d σ := by
  rw [vcOps_x rfl]
  simp only [exec]
  cases x.ev env with
  | str s =>
    simp only
    cases natOf (some (i.ev env)) with
    | none => rfl
    | some n =>
      simp only [Option.bind_some, idxG]
      cases s[n]? <;> simp [bindP, bindV, idxG]
  | _ => rfl
def extG (i : Nat) : GV → Option GV
  | .tup vs => match vs[i]? with
    | some (.tup _) => none
    | v => v
  | _ => none
@[go_sem] theorem vi_ext {i : Nat} {x : Opd} : vcOps D P (⟨d, none, .ext i x⟩ :: r) K env σ = bindV D (extG i (x.ev env)) P r K env d σ := by
  rw [vcOps_x rfl]
  simp only [exec]
  cases x.ev env with
  | tup vs =>
    simp only [extG]
    cases vs[i]? with
    | none => rfl
    | some v => cases v <;> simp [bindP, bindV, extG]
  | _ => rfl
@[go_sem] theorem vi_len {s : Bool} {x : Opd} : vcOps D P (⟨d, none, .len s x⟩ :: r) K env σ = bindV D ((lenG s (x.ev env)).map fun n => .int .i64 n) P r K env d σ := by
  rw [vcOps_x rfl]
  simp only [exec]
  cases lenG s (x.ev env) <;> simp [bindP, bindV]
def appV (z b : Nat) (σ : St) (s x : GV) : Option (GV × St) := match x with
  | .str c => if z = 1 then appG z b σ s c.size (c.data.toList.map fun c => .int .u8 c.toNat) else none
  | x => (elems σ z x).bind fun r => appG z b σ s r.1 r.2
@[go_sem] theorem vi_app {z b : Nat} {ze : List GV} {s x : Opd} : vcOps D P (⟨d, none, .app z b ze s x⟩ :: r) K env σ = bindP D σ (appV z b σ (s.ev env) (x.ev env)) P r K env d := by
  rw [vcOps_x rfl]
  rfl
def mmG (mx : Bool) : GV → GV → Option GV
  | .int k a, .int _ b => some (.int k (if mx then (if b > a then b else a) else (if b < a then b else a)))
  | _, _ => none
@[go_sem] theorem vi_mm {m : Bool} {x y : Opd} : vcOps D P (⟨d, none, .mm m x y⟩ :: r) K env σ = bindV D (mmG m (x.ev env) (y.ev env)) P r K env d σ := by
  rw [vcOps_x rfl]
  simp only [exec]
  cases x.ev env <;> first | rfl | skip
  cases y.ev env <;> simp [bindP, bindV, mmG]
@[go_sem] theorem vi_call {f : Nat} {xs : List Opd} : vcOps D P (⟨d, none, .call f xs⟩ :: r) K env σ = bindC D f (xs.map (·.ev env)) P r K env d σ := by
  simp only [vcOps, wantedG, if_true, bindC, Step]
@[go_sem] theorem vi_callv {x : Opd} {xs : List Opd} : vcOps D P (⟨d, none, .callv x xs⟩ :: r) K env σ = bindF D (x.ev env) (xs.map (·.ev env)) P r K env d σ := by
  apply propext
  simp only [vcOps, wantedG, if_true, Step, bindF]
  constructor
  · rintro ⟨v, σ', ⟨f, caps, hf, hR⟩, hp, hk⟩
    rw [hf]
    exact ⟨v, σ', hR, hp, hk⟩
  · intro h
    split at h
    · rename_i f caps hf
      obtain ⟨v, σ', hR, hp, hk⟩ := h
      exact ⟨v, σ', ⟨f, caps, hf, hR⟩, hp, hk⟩
    · exact h.elim
section code
variable {Q : Ex → Env → St → Prop}
@[go_sem] theorem vc_skip : vc P .skip Q env σ = Q .nxt env σ := (rfl)
@[go_sem] theorem vc_reg {os : List Op1} : vc P (.reg os) Q env σ = vcOps false P os (Q .nxt) env σ := (rfl)
@[go_sem] theorem vc_drw {as bs : List Op1} : vc P (.drw as bs) Q env σ = vcOps true P as (vcOps false P bs (Q .nxt)) env σ := (rfl)
@[go_sem] theorem vc_seq {a b : Cd} : vc P (.seq a b) Q env σ = vc P a (fun e => match e with
    | .nxt => vc P b Q
    | e => Q e) env σ := (rfl)
@[go_sem] theorem vc_cnd {c : Opd} {a b : Cd} : vc P (.cnd c a b) Q env σ = bindIf (c.ev env).bit P a b Q env σ := by
  simp only [vc, bindIf]
  cases (c.ev env).bit <;> simp
@[go_sem] theorem vc_blk {id : Nat} {a : Cd} : vc P (.blk id a) Q env σ = vc P a (fun e => match e with
    | .ext j => if j = id then Q .nxt else Q (.ext j)
    | e => Q e) env σ := (rfl)
@[go_sem] theorem vc_ext {id : Nat} : vc P (.ext id) Q env σ = Q (.ext id) env σ := (rfl)
@[go_sem] theorem vc_ret : vc P .ret Q env σ = Q .ret env σ := (rfl)
end code
@[go_sem] theorem ev_t {n : Nat} : (Opd.t n).ev env = env n := (rfl)
@[go_sem] theorem ev_k {v : GV} : (Opd.k v).ev env = v := (rfl)
@[go_sem] theorem upo_some {d : Nat} {v : GV} : upo env (some d) v = up env d v := (rfl)
@[go_sem] theorem upo_none {v : GV} : upo env none v = env := (rfl)
@[go_sem] theorem up_at {d n : Nat} {v : GV} : up env d v n = if n = d then v else env n := (rfl)
@[go_sem] theorem env0_at {args : List GV} {n : Nat} : env0 args n = args.getD n (.tup []) := (rfl)
/-- A call, by its contract. -/
theorem by_ret {f : Nat} {args : List GV} {v : GV} (h : Ret P f args σ v σ) (k : vcOps D P r K (upo env d v) σ) : bindC D f args P r K env d σ := ⟨v, σ, h, fun _ => List.prefix_refl _, k⟩
theorem by_new {f : Nat} {args : List GV} {v : GV} {σ' : St} (h : Ret P f args σ v σ') (hp : σ <+: σ') (k : vcOps D P r K (upo env d v) σ') : bindC D f args P r K env d σ := ⟨v, σ', h, fun _ => hp, k⟩
theorem by_mut {f : Nat} {args : List GV} {v : GV} {σ' : St} (h : Ret P f args σ v σ') (k : vcOps false P r K (upo env d v) σ') : bindC false f args P r K env d σ := ⟨v, σ', h, (fun h => by cases h), k⟩
end eqs
end Go.Proofs.Ytopannfdcikgiaa.Sy
