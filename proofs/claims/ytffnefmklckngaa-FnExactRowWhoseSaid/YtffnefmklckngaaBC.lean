/- Texts of this proof, one behind the other. -/
import Derived.Test.YtffnefmklckngaaBB
/- Loops over a row, and other words for contracts. -/
namespace Go.Proofs.Ytffnefmklckngaa.Sy
open Go Go.RowKit
set_option linter.unusedSimpArgs false
set_option linter.unusedVariables false
/-- A loop that counts up in register ri to n. -/
theorem vc_for {P : Program} {a : Cd} {Q : Ex → Env → St → Prop} {env : Env} {σ : St} (n ri : Nat) (I : Nat → Env → St → Prop) (hr : env ri = gi 0) (h0 : I 0 env σ)
    (hs : ∀ i env σ, i < n → env ri = gi i → decide ((i : Int) < n) = true → I i env σ → vc P a (fun e env' σ' => match e with | .nxt => env' ri = gi ((i : Int) + 1) ∧ I (i + 1) env' σ' | e => Q e env' σ') env σ)
    (he : ∀ env σ, env ri = gi n → decide ((n : Int) < n) = false → I n env σ → vc P a (fun e env' σ' => match e with | .nxt => False | e => Q e env' σ') env σ) : vc P (.lop a) Q env σ := by
  refine vc_lop (fun k env σ => ∃ i : Nat, k = n - i ∧ i ≤ n ∧ env ri = gi i ∧ I i env σ) n ⟨0, rfl, Nat.zero_le _, hr, h0⟩ ?_
  rintro k env σ ⟨i, rfl, hi, h1, h2⟩
  rcases Nat.lt_or_ge i n with hlt | hge
  · refine vc_mono (hs i env σ hlt h1 (by simp; omega) h2) fun e env' σ' he => ?_
    cases e with
    | nxt =>
      obtain ⟨h3, h4⟩ := he
      exact ⟨n - (i + 1), by omega, i + 1, rfl, hlt, h3, h4⟩
    | ext j => exact he
    | ret => exact he
  · obtain rfl : i = n := by omega
    refine vc_mono (he env σ h1 (by simp) h2) fun e env' σ' he => ?_
    cases e with
    | nxt => exact he.elim
    | ext j => exact he
    | ret => exact he
/-- The same, the condition hidden from those who carry out the code. -/
theorem vc_lopJ {P : Program} {a : Cd} {Q : Ex → Env → St → Prop} {env : Env} {σ : St} (I : Nat → Env → St → Prop) (n : Nat) (h0 : I n env σ)
    (hs : ∀ J : Nat → Env → St → Prop, (∀ k env σ, I k env σ → J k env σ) → ∀ k env σ, I k env σ → vc P a (fun e env' σ' => match e with | .nxt => ∃ k', k' < k ∧ J k' env' σ' | e => Q e env' σ') env σ) : vc P (.lop a) Q env σ := vc_lop I n h0 (hs I fun _ _ _ h => h)
theorem vc_forJ {P : Program} {a : Cd} {Q : Ex → Env → St → Prop} {env : Env} {σ : St} (n ri : Nat) (I : Nat → Env → St → Prop) (hr : env ri = gi 0) (h0 : I 0 env σ)
    (hs : ∀ J : Nat → Env → St → Prop, (∀ i env σ, I i env σ → J i env σ) → ∀ i env σ, i < n → env ri = gi i → decide ((i : Int) < n) = true → I i env σ → vc P a (fun e env' σ' => match e with | .nxt => env' ri = gi ((i : Int) + 1) ∧ J (i + 1) env' σ' | e => Q e env' σ') env σ)
    (he : ∀ env σ, env ri = gi n → decide ((n : Int) < n) = false → I n env σ → vc P a (fun e env' σ' => match e with | .nxt => False | e => Q e env' σ') env σ) : vc P (.lop a) Q env σ := vc_for n ri I hr h0 (hs I fun _ _ _ h => h) he
theorem box_pre {σ τ : St} {x : Option Blk} (h : σ ++ [x] <+: τ) : σ <+: τ := (List.prefix_append _ _).trans h
theorem box_rd {σ τ : St} {z : Nat} {cs : List GV} (h : σ ++ [some (.row z cs)] <+: τ) : rdB τ σ.length = some cs := rdB_pre h (by unfold rdB; simp [Blk.cells])
theorem rdB_new {σ : St} {z : Nat} {cs : List GV} : rdB (σ ++ [some (.row z cs)]) σ.length = some cs := by
  unfold rdB; simp [Blk.cells]
theorem rdB_app {σ : St} {g : Nat} {cs : List GV} (h : rdB σ g = some cs) (r : St) : rdB (σ ++ r) g = some cs := rdB_pre (List.prefix_append _ _) h
theorem pre1 (σ : St) (x : Option Blk) : σ <+: σ ++ [x] := List.prefix_append _ _
theorem box_pre2 {σ τ : St} {x y : Option Blk} (h : σ ++ [x] ++ [y] <+: τ) : σ <+: τ := box_pre (box_pre h)
theorem box_pre3 {σ τ : St} {x y z : Option Blk} (h : σ ++ [x] ++ [y] ++ [z] <+: τ) : σ <+: τ := box_pre (box_pre2 h)
theorem box_rd2 {σ τ : St} {z : Nat} {cs : List GV} {y : Option Blk} (h : σ ++ [some (.row z cs)] ++ [y] <+: τ) : rdB τ σ.length = some cs := box_rd (box_pre h)
theorem box_rd3 {σ τ : St} {z : Nat} {cs : List GV} {y x : Option Blk} (h : σ ++ [some (.row z cs)] ++ [y] ++ [x] <+: τ) : rdB τ σ.length = some cs := box_rd (box_pre (box_pre h))
attribute [go_sem] Bool.true_xor Bool.false_xor
theorem RdN.cells1 {α : Type} {d : Kd α} {τ : St} {v : GV} {l : List (List α)} (h : RS d.sl τ v l) {i : Nat} (hi : i < l.length) : ∃ c, (iadG 1 v (some i) = some (atz 1 v i) ∧ ldG false 1 τ (atz 1 v i) = some c) ∧ RS d τ c l[i] := by
  obtain ⟨cs, ⟨c, rfl, hr⟩, hs⟩ := RdN.cells h hi
  have h1 := hs 0 1 [c] (by simp [seg]) false
  refine ⟨c, ⟨RdN.iad h hi, ?_⟩, hr⟩
  rw [← mkv_one (c := c), ← h1]
  rcases h with ⟨rfl, _⟩ | ⟨g, off, cs, rfl, _⟩
  · simp at hi
  · rfl
theorem RdN.cellsN {α : Type} {d : Kd α} {τ : St} {v : GV} {l : List α} (h : RS d τ v l) {i : Nat} (hi : i < l.length) : ∃ cs, (iadG d.z v (some i) = some (atz d.z v i) ∧ (∀ k, fadG k (atz d.z v i) = some (fld k (atz d.z v i))) ∧ (∀ k m, fadG k (fld m (atz d.z v i)) = some (fld (m + k) (atz d.z v i))) ∧ ldG true d.z τ (atz d.z v i) = some (.agg cs) ∧ ∀ k n a, k + n ≤ d.z → ldG a n τ (fld k (atz d.z v i)) = (seg cs k n).bind (mkv a)) ∧ d.R τ l[i] cs := by
  obtain ⟨cs, hr, hs⟩ := RdN.cells h hi
  have hl := d.len hr
  have h1 := hs 0 d.z cs (by simp [seg, hl]; exact List.take_of_length_le (by omega)) true
  refine ⟨cs, ⟨RdN.iad h hi, fun k => RdN.fad h hi, fun k m => RdN.fad2 h hi, ?_, fun k n a hk => ?_⟩, hr⟩
  · have h2 : mkv true cs = some (.agg cs) := rfl
    rw [← h2, ← h1]
    rcases h with ⟨rfl, _⟩ | ⟨g, off, cs, rfl, _⟩
    · simp at hi
    · rfl
  · have e : seg cs k n = some ((cs.drop k).take n) := by unfold seg; rw [if_pos (by omega)]
    rw [e]; exact hs k n _ e a
theorem Rd_iff {σ : St} {v : GV} {l : List Int} : Rd σ v l ↔ RS pI.kd σ v l := by
  constructor
  · rintro (h | ⟨g, off, cs, h1, h2, h3, h4⟩)
    · exact .inl h
    · refine .inr ⟨g, off, cs, h1, h2, by show off + l.length * 1 ≤ _; omega, fun i x hx => ?_⟩
      have h5 := h4 i x hx
      have hlt := (List.getElem?_eq_some_iff.1 h5).1
      show (cs.drop (off + i * 1)).take 1 = [gi x]
      rw [Nat.mul_one, List.drop_eq_getElem_cons hlt]
      have e : cs[off + i] = gi x := by rw [List.getElem?_eq_getElem hlt] at h5; injection h5
      simp [e]
  · rintro (h | ⟨g, off, cs, h1, h2, h3, h4⟩)
    · exact .inl h
    · have h3' : off + l.length * 1 ≤ cs.length := h3
      refine .inr ⟨g, off, cs, h1, h2, by omega, fun i x hx => ?_⟩
      have h5 : (cs.drop (off + i * 1)).take 1 = [gi x] := h4 i x hx
      rw [Nat.mul_one] at h5
      have h6 := congrArg (·[0]?) h5
      simpa [List.getElem?_take, List.getElem?_drop] using h6
theorem pI_cells (l : List Int) : pI.cells l = l.map gi := by
  induction l with
  | nil => rfl
  | cons x l ih =>
    have e : pI.cells (x :: l) = gi x :: pI.cells l := rfl
    rw [e, ih]; rfl
theorem OwnI.hp {σ τ : St} {v : GV} {l : List Int} (h : OwnI σ.length τ v l) (hp : σ <+: τ) : Hp σ τ [ow pI.kd v l] := by
  rcases h with ⟨rfl, rfl⟩ | ⟨g, hg, rfl, hB⟩
  · exact ⟨hp, [], ⟨[], [], .inl ⟨rfl, rfl, rfl⟩, rfl, rfl⟩, by simp, by simp⟩
  · exact ⟨hp, [g], ⟨[g], [], OS.flat.2 (.inr ⟨g, [], [], rfl, by rw [hB, pI_cells]; simp; rfl, rfl⟩), rfl, rfl⟩, by simp, by simpa using ⟨hg, bk_lt hB⟩⟩
theorem z_int : pI.z = 1 := (rfl)
theorem z_str : pS.z = 1 := (rfl)
theorem enc_int {x : Int} : pI.enc x = [.int .i64 x] := (rfl)
theorem enc_str {x : ByteArray} : pS.enc x = [.str x] := (rfl)
theorem by_hp {P : Program} {env : Env} {τ τ' : St} {K : Kt} {r : List Op1} {d : Option Nat} {D : Bool} {f : Nat} {args : List GV} {v : GV} {rs : List Thg} (h : Ret P f args τ v τ') (hp : Hp τ τ' rs) (k : vcOps D P r K (upo env d v) τ') : bindC D f args P r K env d τ := by_new h hp.sub k
theorem ret_hp {P : Program} {f : Nat} {F : Fn1} {args : List GV} {σ : St} {rs : GV → List Thg} (hF : compFn P f = some F) (hl : args.length ≤ F.n)
    (h : vc P F.c (fun e env τ => isOut e = true ∧ ∃ r, resG env τ F.rs = some r ∧ Hp σ τ (rs r)) (env0 args) σ) : ∃ r τ, Ret P f args σ r τ ∧ Hp σ τ (rs r) := by
  obtain ⟨r, τ, h1, h2, h3⟩ := ret_new (Post := fun r τ => Hp σ τ (rs r)) hF hl (vc_mono h fun e env τ he => by
    obtain ⟨ho, r, hr, hp⟩ := he
    exact ⟨ho, r, hr, hp.sub, hp⟩)
  exact ⟨r, τ, h1, h3⟩
@[go_sem] theorem rs_c {env : Env} {σ : St} {a n : Nat} {agg : Bool} : (Rs.c a agg n).ev env σ = ldG agg n σ (env a) := by
  cases h : env a <;> simp [Rs.ev, h, ptrG, ldG]
@[go_sem] theorem st_new {n : Nat} {τ : St} {z off : Nat} {cs : List GV} {x : GV} : stG n (τ ++ [some (.row z cs)]) (.ptr τ.length off) x = if off + n ≤ cs.length ∧ 0 < n ∧ x.cells.length = n then some (.tup [], τ ++ [some (.row z (splice cs off x.cells))]) else none := by
  simp [stG]
@[go_sem] theorem st_new2 {n : Nat} {τ : St} {z off : Nat} {cs : List GV} {x : GV} {b : Option Blk} : stG n (τ ++ [some (.row z cs)] ++ [b]) (.ptr τ.length off) x = if off + n ≤ cs.length ∧ 0 < n ∧ x.cells.length = n then some (.tup [], τ ++ [some (.row z (splice cs off x.cells))] ++ [b]) else none := by
  simp [stG]
theorem stG_len {n : Nat} {τ τ' : St} {a x : GV} (h : stG n τ a x = some (.tup [], τ')) : τ'.length = τ.length := by
  unfold stG at h
  repeat' split at h
  all_goals first | cases h; done | (injection h with h; injection h with h1 h2; subst h2; simp)
@[go_sem] theorem ld_new {a : Bool} {n : Nat} {τ : St} {z off : Nat} {cs : List GV} : ldG a n (τ ++ [some (.row z cs)]) (.ptr τ.length off) = (seg cs off n).bind (mkv a) := ld_ptr (by unfold rdB; simp [Blk.cells])
@[go_sem] theorem ld_new2 {a : Bool} {n : Nat} {τ : St} {z off : Nat} {cs : List GV} {b : Option Blk} : ldG a n (τ ++ [some (.row z cs)] ++ [b]) (.ptr τ.length off) = (seg cs off n).bind (mkv a) := ld_ptr (by unfold rdB; simp [Blk.cells])
@[go_sem] theorem ld_new3 {a : Bool} {n : Nat} {τ : St} {z off : Nat} {cs : List GV} {b c : Option Blk} : ldG a n (τ ++ [some (.row z cs)] ++ [b] ++ [c]) (.ptr τ.length off) = (seg cs off n).bind (mkv a) := ld_ptr (by unfold rdB; simp [Blk.cells])
@[go_sem] theorem eqb_bool {n a b : Bool} : eqbG n (.bool a) (.bool b) = some (.bool (n ^^ (a == b))) := (rfl)
@[go_sem] theorem len_str {s : ByteArray} : lenG true (.str s) = some (s.size : Int) := (rfl)
theorem pre2 {σ : St} {x y : Option Blk} : σ <+: σ ++ [x] ++ [y] := pre_app (pre1 _ _) _
theorem pre3 {σ : St} {x y z : Option Blk} : σ <+: σ ++ [x] ++ [y] ++ [z] := pre_app pre2 _
attribute [go_sem] pre1 pre2 pre3 Option.some.injEq GV.int.injEq GV.bool.injEq GV.str.injEq
attribute [go_sem] decide_true decide_false Int.natCast_add Int.cast_ofNat_Int Int.add_zero Bool.true_eq_false
theorem seg_full {cs : List GV} {n : Nat} (h : cs.length = n) : (seg cs 0 n).bind (mkv true) = some (.agg cs) := by
  subst h
  simp [seg, mkv]
theorem splice_full {cs ds : List GV} {n : Nat} (h : ds.length = n) (hc : cs.length = n) : splice cs 0 ds = ds := by
  simp [splice, h, ← hc]
theorem ext_sl {v : GV} (h : notTup v = true) {r : List GV} : extG 0 (.tup (v :: r)) = some v := ext_at rfl h
theorem ext_sl1 {v w : GV} (h : notTup v = true) {r : List GV} : extG 1 (.tup (w :: v :: r)) = some v := ext_at rfl h
@[go_sem] theorem ext_0a {c r : List GV} : extG 0 (.tup (.agg c :: r)) = some (.agg c) := (rfl)
@[go_sem] theorem ext_0i {k : IntKind} {n : Int} {r : List GV} : extG 0 (.tup (.int k n :: r)) = some (.int k n) := (rfl)
@[go_sem] theorem ext_0s {c : ByteArray} {r : List GV} : extG 0 (.tup (.str c :: r)) = some (.str c) := (rfl)
@[go_sem] theorem ext_0b {c : Bool} {r : List GV} : extG 0 (.tup (.bool c :: r)) = some (.bool c) := (rfl)
@[go_sem] theorem ext_1a {w : GV} {c r : List GV} : extG 1 (.tup (w :: .agg c :: r)) = some (.agg c) := (rfl)
@[go_sem] theorem ext_1i {w : GV} {k : IntKind} {n : Int} {r : List GV} : extG 1 (.tup (w :: .int k n :: r)) = some (.int k n) := (rfl)
@[go_sem] theorem ext_1s {w : GV} {c : ByteArray} {r : List GV} : extG 1 (.tup (w :: .str c :: r)) = some (.str c) := (rfl)
@[go_sem] theorem ext_1b {w : GV} {c : Bool} {r : List GV} : extG 1 (.tup (w :: .bool c :: r)) = some (.bool c) := (rfl)
@[go_sem] theorem ext_2i {u w : GV} {k : IntKind} {n : Int} {r : List GV} : extG 2 (.tup (u :: w :: .int k n :: r)) = some (.int k n) := (rfl)
@[go_sem] theorem ext_2b {u w : GV} {c : Bool} {r : List GV} : extG 2 (.tup (u :: w :: .bool c :: r)) = some (.bool c) := (rfl)
theorem ret_law {P : Program} {f : Nat} {F : Fn1} {args : List GV} {σ : St} (hF : compFn P f = some F) (hl : args.length ≤ F.n)
    (h : vc P F.c (fun e env τ => isOut e = true ∧ resG env τ F.rs = some (.bool true) ∧ σ.length ≤ τ.length) (env0 args) σ) : ∃ r τ, Ret P f args σ r τ ∧ r = .bool true :=
  ret_mut (Post := fun r τ => r = .bool true) hF hl (vc_mono h fun e env τ he => ⟨he.1, _, he.2.1, he.2.2, rfl⟩)
@[go_sem] theorem tup2_if {x y : GV} : tup2 (some x) (some y) = if notTup x && notTup y then some (.tup [x, y]) else none := (rfl)
@[go_sem] theorem tup3_if {x y z : GV} : tup3 (some x) (some y) (some z) = if notTup x && (notTup y && notTup z) then some (.tup [x, y, z]) else none := (rfl)
@[go_sem] theorem notTup_int {k : IntKind} {n : Int} : notTup (.int k n) = true := (rfl)
@[go_sem] theorem notTup_str {s : ByteArray} : notTup (.str s) = true := (rfl)
@[go_sem] theorem notTup_bool {b : Bool} : notTup (.bool b) = true := (rfl)
@[go_sem] theorem notTup_agg {cs : List GV} : notTup (.agg cs) = true := (rfl)
@[go_sem] theorem notTup_nil : notTup .nilS = true := (rfl)
@[go_sem] theorem notTup_sl {g o n : Nat} : notTup (.sl g o n) = true := (rfl)
/-- A row that was just laid. -/
theorem RS_lit {α : Type} {p : Pl α} (τ : St) {z : Nat} {cs : List GV} (l : List α) {n : Nat} (hz : z = p.z) (hc : cs = p.cells l) (hn : n = l.length) : RS p.kd (τ ++ [some (.row z cs)]) (.sl τ.length 0 n) l := by
  subst hz hc hn
  exact (((Hp.refl τ).new p.z (p.cells l)).toRow 0 rfl l rfl rfl _ rfl).sl 0 rfl
theorem dneg1 {n : Nat} : decide (1 + (n : Int) < 0) = false := decide_eq_false (by omega)
theorem dneg2 {n : Nat} {c : Int} (h : 0 ≤ c) : decide (1 + c * (n : Int) < 0) = false := decide_eq_false (by have := Int.mul_nonneg h (Int.natCast_nonneg n); omega)
namespace Hp
theorem rebase {σ0 σ τ : St} {rs : List Thg} (H : Hp σ τ rs) (h : σ0 <+: σ) : Hp σ0 τ rs := by
  obtain ⟨h1, fp, h2, h3, h4⟩ := H
  have := h.length_le
  exact ⟨h.trans h1, fp, h2, h3, fun g hg => by have := h4 g hg; omega⟩
theorem restart {σ τ : St} {rs : List Thg} (H : Hp σ τ rs) : Hp τ τ [] := refl τ
theorem conv {σ τ : St} {r r' : Thg} {rs : List Thg} (H : Hp σ τ (r :: rs)) (h : ∀ fp, r.P τ fp → r'.P τ fp) : Hp σ τ (r' :: rs) := by
  obtain ⟨a, ha, hn, hb, ht⟩ := H.turn
  exact ht ⟨hn, fun g hg => .inl hg, Nat.le_refl _, fun _ _ _ => rfl⟩ (h a ha)
theorem app_int {σ τ : St} {rs : List Thg} {v : GV} {l : List Int} (H : Hp σ τ rs) (i : Nat) (hi : rs[i]? = some (ow pI.kd v l)) (x : Int) (hb : (l.length + 1) * 8 ≤ 140737488355328) : ∃ v' τ', appV 1 8 (τ ++ [some (.row 1 [.int .i64 x])]) v (.sl τ.length 0 1) = some (v', τ') ∧ Hp σ τ' (rs.set i (ow pI.kd v' (l ++ [x]))) := H.app1 i hi x (by decide) hb
theorem apps_int {σ τ : St} {rs : List Thg} {v u : GV} {l k : List Int} (H : Hp σ τ rs) (i : Nat) (hi : rs[i]? = some (ow pI.kd v l)) (hx : RS pI.kd τ u k) (hb : (l.length + k.length) * 8 ≤ 140737488355328) : ∃ v' τ', appV 1 8 τ v u = some (v', τ') ∧ Hp σ τ' (rs.set i (ow pI.kd v' (l ++ k))) := H.app i hi hx (by decide) hb
theorem nil_int {σ τ : St} {rs : List Thg} (H : Hp σ τ rs) : Hp σ (τ ++ [some (.row 1 [])]) (ow pI.kd (.sl τ.length 0 0) [] :: rs) := H.newNil pI.kd
theorem app_str {σ τ : St} {rs : List Thg} {v : GV} {l : List ByteArray} (H : Hp σ τ rs) (i : Nat) (hi : rs[i]? = some (ow pS.kd v l)) (x : ByteArray) (hb : (l.length + 1) * 16 ≤ 140737488355328) : ∃ v' τ', appV 1 16 (τ ++ [some (.row 1 [.str x])]) v (.sl τ.length 0 1) = some (v', τ') ∧ Hp σ τ' (rs.set i (ow pS.kd v' (l ++ [x]))) := H.app1 i hi x (by decide) hb
theorem apps_str {σ τ : St} {rs : List Thg} {v u : GV} {l k : List ByteArray} (H : Hp σ τ rs) (i : Nat) (hi : rs[i]? = some (ow pS.kd v l)) (hx : RS pS.kd τ u k) (hb : (l.length + k.length) * 16 ≤ 140737488355328) : ∃ v' τ', appV 1 16 τ v u = some (v', τ') ∧ Hp σ τ' (rs.set i (ow pS.kd v' (l ++ k))) := H.app i hi hx (by decide) hb
theorem nil_str {σ τ : St} {rs : List Thg} (H : Hp σ τ rs) : Hp σ (τ ++ [some (.row 1 [])]) (ow pS.kd (.sl τ.length 0 0) [] :: rs) := H.newNil pS.kd
theorem app_Dot {σ τ : St} {rs : List Thg} {v : GV} {l : List Dot} (H : Hp σ τ rs) (i : Nat) (hi : rs[i]? = some (ow pDot.kd v l)) (x : Dot) (hb : (l.length + 1) * 16 ≤ 140737488355328) : ∃ v' τ', appV 2 16 (τ ++ [some (.row 2 [.int .i64 x.rep, .int .i64 x.seq])]) v (.sl τ.length 0 1) = some (v', τ') ∧ Hp σ τ' (rs.set i (ow pDot.kd v' (l ++ [x]))) := H.app1 i hi x (by decide) hb
theorem apps_Dot {σ τ : St} {rs : List Thg} {v u : GV} {l k : List Dot} (H : Hp σ τ rs) (i : Nat) (hi : rs[i]? = some (ow pDot.kd v l)) (hx : RS pDot.kd τ u k) (hb : (l.length + k.length) * 16 ≤ 140737488355328) : ∃ v' τ', appV 2 16 τ v u = some (v', τ') ∧ Hp σ τ' (rs.set i (ow pDot.kd v' (l ++ k))) := H.app i hi hx (by decide) hb
theorem nil_Dot {σ τ : St} {rs : List Thg} (H : Hp σ τ rs) : Hp σ (τ ++ [some (.row 2 [])]) (ow pDot.kd (.sl τ.length 0 0) [] :: rs) := H.newNil pDot.kd
theorem app_Tally {σ τ : St} {rs : List Thg} {v : GV} {l : List Tally} (H : Hp σ τ rs) (i : Nat) (hi : rs[i]? = some (ow pTally.kd v l)) (x : Tally) (hb : (l.length + 1) * 32 ≤ 140737488355328) : ∃ v' τ', appV 3 32 (τ ++ [some (.row 3 [.str x.obj, .int .i64 x.rep, .int .i64 x.sum])]) v (.sl τ.length 0 1) = some (v', τ') ∧ Hp σ τ' (rs.set i (ow pTally.kd v' (l ++ [x]))) := H.app1 i hi x (by decide) hb
theorem apps_Tally {σ τ : St} {rs : List Thg} {v u : GV} {l k : List Tally} (H : Hp σ τ rs) (i : Nat) (hi : rs[i]? = some (ow pTally.kd v l)) (hx : RS pTally.kd τ u k) (hb : (l.length + k.length) * 32 ≤ 140737488355328) : ∃ v' τ', appV 3 32 τ v u = some (v', τ') ∧ Hp σ τ' (rs.set i (ow pTally.kd v' (l ++ k))) := H.app i hi hx (by decide) hb
theorem nil_Tally {σ τ : St} {rs : List Thg} (H : Hp σ τ rs) : Hp σ (τ ++ [some (.row 3 [])]) (ow pTally.kd (.sl τ.length 0 0) [] :: rs) := H.newNil pTally.kd
theorem app_Live {σ τ : St} {rs : List Thg} {v : GV} {l : List Live} (H : Hp σ τ rs) (i : Nat) (hi : rs[i]? = some (ow pLive.kd v l)) (x : Live) (hb : (l.length + 1) * 64 ≤ 140737488355328) : ∃ v' τ', appV 6 64 (τ ++ [some (.row 6 [.bool x.map, .str x.obj, .str x.key, .int .i64 x.val, .int .i64 x.dot.rep, .int .i64 x.dot.seq])]) v (.sl τ.length 0 1) = some (v', τ') ∧ Hp σ τ' (rs.set i (ow pLive.kd v' (l ++ [x]))) := H.app1 i hi x (by decide) hb
theorem apps_Live {σ τ : St} {rs : List Thg} {v u : GV} {l k : List Live} (H : Hp σ τ rs) (i : Nat) (hi : rs[i]? = some (ow pLive.kd v l)) (hx : RS pLive.kd τ u k) (hb : (l.length + k.length) * 64 ≤ 140737488355328) : ∃ v' τ', appV 6 64 τ v u = some (v', τ') ∧ Hp σ τ' (rs.set i (ow pLive.kd v' (l ++ k))) := H.app i hi hx (by decide) hb
theorem nil_Live {σ τ : St} {rs : List Thg} (H : Hp σ τ rs) : Hp σ (τ ++ [some (.row 6 [])]) (ow pLive.kd (.sl τ.length 0 0) [] :: rs) := H.newNil pLive.kd
theorem app_Cell {σ τ : St} {rs : List Thg} {v : GV} {l : List Cell} (H : Hp σ τ rs) (i : Nat) (hi : rs[i]? = some (ow pCell.kd v l)) (x : Cell) (hb : (l.length + 1) * 72 ≤ 140737488355328) : ∃ v' τ', appV 8 72 (τ ++ [some (.row 8 [.str x.obj, .int .i64 x.dot.rep, .int .i64 x.dot.seq, .int .i64 x.time, .int .i64 x.ref.rep, .int .i64 x.ref.seq, .int .i64 x.val, .bool x.gone])]) v (.sl τ.length 0 1) = some (v', τ') ∧ Hp σ τ' (rs.set i (ow pCell.kd v' (l ++ [x]))) := H.app1 i hi x (by decide) hb
theorem apps_Cell {σ τ : St} {rs : List Thg} {v u : GV} {l k : List Cell} (H : Hp σ τ rs) (i : Nat) (hi : rs[i]? = some (ow pCell.kd v l)) (hx : RS pCell.kd τ u k) (hb : (l.length + k.length) * 72 ≤ 140737488355328) : ∃ v' τ', appV 8 72 τ v u = some (v', τ') ∧ Hp σ τ' (rs.set i (ow pCell.kd v' (l ++ k))) := H.app i hi hx (by decide) hb
theorem nil_Cell {σ τ : St} {rs : List Thg} (H : Hp σ τ rs) : Hp σ (τ ++ [some (.row 8 [])]) (ow pCell.kd (.sl τ.length 0 0) [] :: rs) := H.newNil pCell.kd
theorem app_Edit {σ τ : St} {rs : List Thg} {v : GV} {l : List Edit} (H : Hp σ τ rs) (i : Nat) (hi : rs[i]? = some (ow pEdit.kd v l)) (x : Edit) (hb : (l.length + 1) * 56 ≤ 140737488355328) : ∃ v' τ', appV 5 56 (τ ++ [some (.row 5 [.int .i64 x.kind, .str x.obj, .str x.key, .int .i64 x.val, .int .i64 x.place])]) v (.sl τ.length 0 1) = some (v', τ') ∧ Hp σ τ' (rs.set i (ow pEdit.kd v' (l ++ [x]))) := H.app1 i hi x (by decide) hb
theorem apps_Edit {σ τ : St} {rs : List Thg} {v u : GV} {l k : List Edit} (H : Hp σ τ rs) (i : Nat) (hi : rs[i]? = some (ow pEdit.kd v l)) (hx : RS pEdit.kd τ u k) (hb : (l.length + k.length) * 56 ≤ 140737488355328) : ∃ v' τ', appV 5 56 τ v u = some (v', τ') ∧ Hp σ τ' (rs.set i (ow pEdit.kd v' (l ++ k))) := H.app i hi hx (by decide) hb
theorem nil_Edit {σ τ : St} {rs : List Thg} (H : Hp σ τ rs) : Hp σ (τ ++ [some (.row 5 [])]) (ow pEdit.kd (.sl τ.length 0 0) [] :: rs) := H.newNil pEdit.kd
theorem app_Watch {σ τ : St} {rs : List Thg} {v : GV} {l : List Watch} (H : Hp σ τ rs) (i : Nat) (hi : rs[i]? = some (ow pWatch.kd v l)) (x : Watch) (hb : (l.length + 1) * 40 ≤ 140737488355328) : ∃ v' τ', appV 3 40 (τ ++ [some (.row 3 [.int .i64 x.kind, .str x.obj, .str x.key])]) v (.sl τ.length 0 1) = some (v', τ') ∧ Hp σ τ' (rs.set i (ow pWatch.kd v' (l ++ [x]))) := H.app1 i hi x (by decide) hb
theorem apps_Watch {σ τ : St} {rs : List Thg} {v u : GV} {l k : List Watch} (H : Hp σ τ rs) (i : Nat) (hi : rs[i]? = some (ow pWatch.kd v l)) (hx : RS pWatch.kd τ u k) (hb : (l.length + k.length) * 40 ≤ 140737488355328) : ∃ v' τ', appV 3 40 τ v u = some (v', τ') ∧ Hp σ τ' (rs.set i (ow pWatch.kd v' (l ++ k))) := H.app i hi hx (by decide) hb
theorem nil_Watch {σ τ : St} {rs : List Thg} (H : Hp σ τ rs) : Hp σ (τ ++ [some (.row 3 [])]) (ow pWatch.kd (.sl τ.length 0 0) [] :: rs) := H.newNil pWatch.kd
theorem app_Clash {σ τ : St} {rs : List Thg} {v : GV} {l : List Clash} (H : Hp σ τ rs) (i : Nat) (hi : rs[i]? = some (ow pClash.kd v l)) (x : Clash) (hb : (l.length + 1) * 32 ≤ 140737488355328) : ∃ v' τ', appV 2 32 (τ ++ [some (.row 2 [.str x.obj, .str x.key])]) v (.sl τ.length 0 1) = some (v', τ') ∧ Hp σ τ' (rs.set i (ow pClash.kd v' (l ++ [x]))) := H.app1 i hi x (by decide) hb
theorem apps_Clash {σ τ : St} {rs : List Thg} {v u : GV} {l k : List Clash} (H : Hp σ τ rs) (i : Nat) (hi : rs[i]? = some (ow pClash.kd v l)) (hx : RS pClash.kd τ u k) (hb : (l.length + k.length) * 32 ≤ 140737488355328) : ∃ v' τ', appV 2 32 τ v u = some (v', τ') ∧ Hp σ τ' (rs.set i (ow pClash.kd v' (l ++ k))) := H.app i hi hx (by decide) hb
theorem nil_Clash {σ τ : St} {rs : List Thg} (H : Hp σ τ rs) : Hp σ (τ ++ [some (.row 2 [])]) (ow pClash.kd (.sl τ.length 0 0) [] :: rs) := H.newNil pClash.kd
theorem app_File {σ τ : St} {rs : List Thg} {v : GV} {l : List File} (H : Hp σ τ rs) (i : Nat) (hi : rs[i]? = some (ow pFile.kd v l)) (x : File) (hb : (l.length + 1) * 24 ≤ 140737488355328) : ∃ v' τ', appV 2 24 (τ ++ [some (.row 2 [.str x.text, .int .i64 x.synced])]) v (.sl τ.length 0 1) = some (v', τ') ∧ Hp σ τ' (rs.set i (ow pFile.kd v' (l ++ [x]))) := H.app1 i hi x (by decide) hb
theorem apps_File {σ τ : St} {rs : List Thg} {v u : GV} {l k : List File} (H : Hp σ τ rs) (i : Nat) (hi : rs[i]? = some (ow pFile.kd v l)) (hx : RS pFile.kd τ u k) (hb : (l.length + k.length) * 24 ≤ 140737488355328) : ∃ v' τ', appV 2 24 τ v u = some (v', τ') ∧ Hp σ τ' (rs.set i (ow pFile.kd v' (l ++ k))) := H.app i hi hx (by decide) hb
theorem nil_File {σ τ : St} {rs : List Thg} (H : Hp σ τ rs) : Hp σ (τ ++ [some (.row 2 [])]) (ow pFile.kd (.sl τ.length 0 0) [] :: rs) := H.newNil pFile.kd
theorem app_Letter {σ τ : St} {rs : List Thg} {v : GV} {l : List Letter} (H : Hp σ τ rs) (i : Nat) (hi : rs[i]? = some (ow pLetter.kd v l)) (x : Letter) (hb : (l.length + 1) * 24 ≤ 140737488355328) : ∃ v' τ', appV 2 24 (τ ++ [some (.row 2 [.int .i64 x.to, .str x.text])]) v (.sl τ.length 0 1) = some (v', τ') ∧ Hp σ τ' (rs.set i (ow pLetter.kd v' (l ++ [x]))) := H.app1 i hi x (by decide) hb
theorem apps_Letter {σ τ : St} {rs : List Thg} {v u : GV} {l k : List Letter} (H : Hp σ τ rs) (i : Nat) (hi : rs[i]? = some (ow pLetter.kd v l)) (hx : RS pLetter.kd τ u k) (hb : (l.length + k.length) * 24 ≤ 140737488355328) : ∃ v' τ', appV 2 24 τ v u = some (v', τ') ∧ Hp σ τ' (rs.set i (ow pLetter.kd v' (l ++ k))) := H.app i hi hx (by decide) hb
theorem nil_Letter {σ τ : St} {rs : List Thg} (H : Hp σ τ rs) : Hp σ (τ ++ [some (.row 2 [])]) (ow pLetter.kd (.sl τ.length 0 0) [] :: rs) := H.newNil pLetter.kd
theorem app_Event {σ τ : St} {rs : List Thg} {v : GV} {l : List Event} (H : Hp σ τ rs) (i : Nat) (hi : rs[i]? = some (ow pEvent.kd v l)) (x : Event) (hb : (l.length + 1) * 80 ≤ 140737488355328) : ∃ v' τ', appV 8 80 (τ ++ [some (.row 8 [.int .i64 x.kind, .int .i64 x.at_, .int .i64 x.num, .int .i64 x.edit.kind, .str x.edit.obj, .str x.edit.key, .int .i64 x.edit.val, .int .i64 x.edit.place])]) v (.sl τ.length 0 1) = some (v', τ') ∧ Hp σ τ' (rs.set i (ow pEvent.kd v' (l ++ [x]))) := H.app1 i hi x (by decide) hb
theorem apps_Event {σ τ : St} {rs : List Thg} {v u : GV} {l k : List Event} (H : Hp σ τ rs) (i : Nat) (hi : rs[i]? = some (ow pEvent.kd v l)) (hx : RS pEvent.kd τ u k) (hb : (l.length + k.length) * 80 ≤ 140737488355328) : ∃ v' τ', appV 8 80 τ v u = some (v', τ') ∧ Hp σ τ' (rs.set i (ow pEvent.kd v' (l ++ k))) := H.app i hi hx (by decide) hb
theorem nil_Event {σ τ : St} {rs : List Thg} (H : Hp σ τ rs) : Hp σ (τ ++ [some (.row 8 [])]) (ow pEvent.kd (.sl τ.length 0 0) [] :: rs) := H.newNil pEvent.kd
theorem one {σ τ : St} {r : Thg} {rs : List Thg} (H : Hp σ τ (r :: rs)) : Hp σ τ [r] := by
  obtain ⟨h, fp, ⟨a, b, hr, hs, rfl⟩, hn, hb⟩ := H
  exact ⟨h, a, ⟨a, [], hr, rfl, by simp⟩, (List.nodup_append.1 hn).1, fun g hg => hb g (List.mem_append_left _ hg)⟩
/-- A whole element is written: of a plain kind. -/
theorem stw {α : Type} {p : Pl α} {σ τ : St} {rs : List Thg} {v : GV} {l : List α} (H : Hp σ τ rs) (i : Nat) (hi : rs[i]? = some (ow p.kd v l)) {j : Nat} (hj : j < l.length) (n : Nat) (x : GV) (y : α) (hx : x.cells = p.enc y) (hn : n = p.z) (hz : 0 < n) :
    ∃ τ', stG n τ (atz p.z v j) x = some (.tup [], τ') ∧ Hp σ τ' (rs.set i (ow p.kd v (l.set j y))) := by
  subst hn
  have := H.ste i hi hj p.z 0 x y (by rw [hx, p.len]) hz (by omega) (by rw [hx]; unfold splice; rw [List.take_zero, List.nil_append, p.len, List.drop_eq_nil_of_le (by rw [p.len]; omega), List.append_nil])
  obtain ⟨τ', e, h⟩ := this
  refine ⟨τ', ?_, h⟩
  rw [← e]
  cases v <;> rfl
end Hp
end Go.Proofs.Ytffnefmklckngaa.Sy

/- How a law's arguments lie, and that they read as the types. -/
namespace Go.Proofs.Ytffnefmklckngaa.Sy
open Go Go.RowKit
set_option linter.unusedSimpArgs false
set_option linter.unusedVariables false
theorem Sl.rs {α : Type} {e : Ek α} {k : Kd α} (hz : e.z = k.z) (hb : ∀ {σ x cs}, e.R σ x cs → k.R σ x cs) {σ : St} {v : GV} {l : List α} (h : Sl e σ v l) : RS k σ v l := by
  rcases h with h | ⟨g, off, cs, h1, h2, h3, h4⟩
  · exact .inl h
  · refine .inr ⟨g, off, cs, h1, fxb_rdB h2, by show off + l.length * k.z ≤ _; rw [← hz]; exact h3, fun i x hx => ?_⟩
    show k.R σ x ((cs.drop (off + i * k.z)).take k.z)
    rw [← hz]; exact hb (h4 i x hx)
theorem Sl.brs {α : Type} {e : Ek α} {k : Kd α} (hz : e.z = k.z) (hb : ∀ {σ x cs}, e.R σ x cs → k.R σ x cs) {σ : St} {l : List α} {cs : List GV} (h : (Ek.slice e).R σ l cs) : k.sl.R σ l cs := by
  obtain ⟨v, h1, h2⟩ := h
  exact ⟨v, h1, h2.rs hz hb⟩
theorem agg_of {P : Program} {w : World} {r : Reach} {base : Nat} {t : TypeId} {fs : Array Field} {v : Value} (ht : P.underlying t = some (.struct fs)) (h : Value.okWide P w r base t v) : ∃ cs, v = .agg cs := by
  simp only [Value.okWide, ht] at h
  obtain ⟨cs, h1, _⟩ := h
  exact ⟨cs, h1⟩
def eDot : Ek Dot := Ek.iso (Ek.pair (Ek.int .i64) (Ek.int .i64)) (fun x => (x.rep, x.seq))
def zDot (x : Dot) : Prop := I64 (x.rep) ∧ I64 (x.seq)
theorem brDot {σ : St} {x : Dot} {cs : List GV} (h : eDot.R σ x cs) : pDot.kd.R σ x cs := by
  obtain ⟨c0, d0, rfl, h0, h⟩ := h
  obtain rfl := h0
  obtain rfl := h
  rfl
def eTally : Ek Tally := Ek.iso (Ek.pair Ek.str (Ek.pair (Ek.int .i64) (Ek.int .i64))) (fun x => (x.obj, x.rep, x.sum))
def zTally (x : Tally) : Prop := (x.obj).size ≤ 9223372036854775807 ∧ I64 (x.rep) ∧ I64 (x.sum)
theorem brTally {σ : St} {x : Tally} {cs : List GV} (h : eTally.R σ x cs) : pTally.kd.R σ x cs := by
  obtain ⟨c0, d0, rfl, h0, h⟩ := h
  obtain rfl := h0
  obtain ⟨c1, d1, rfl, h1, h⟩ := h
  obtain rfl := h1
  obtain rfl := h
  rfl
def eLive : Ek Live := Ek.iso (Ek.pair Ek.bool (Ek.pair Ek.str (Ek.pair Ek.str (Ek.pair (Ek.int .i64) eDot)))) (fun x => (x.map, x.obj, x.key, x.val, x.dot))
def zLive (x : Live) : Prop := True ∧ (x.obj).size ≤ 9223372036854775807 ∧ (x.key).size ≤ 9223372036854775807 ∧ I64 (x.val) ∧ zDot (x.dot)
theorem brLive {σ : St} {x : Live} {cs : List GV} (h : eLive.R σ x cs) : pLive.kd.R σ x cs := by
  obtain ⟨c0, d0, rfl, h0, h⟩ := h
  obtain rfl := h0
  obtain ⟨c1, d1, rfl, h1, h⟩ := h
  obtain rfl := h1
  obtain ⟨c2, d2, rfl, h2, h⟩ := h
  obtain rfl := h2
  obtain ⟨c3, d3, rfl, h3, h⟩ := h
  obtain rfl := h3
  obtain rfl := brDot h
  rfl
def eCell : Ek Cell := Ek.iso (Ek.pair Ek.str (Ek.pair eDot (Ek.pair (Ek.int .i64) (Ek.pair eDot (Ek.pair (Ek.int .i64) Ek.bool))))) (fun x => (x.obj, x.dot, x.time, x.ref, x.val, x.gone))
def zCell (x : Cell) : Prop := (x.obj).size ≤ 9223372036854775807 ∧ zDot (x.dot) ∧ I64 (x.time) ∧ zDot (x.ref) ∧ I64 (x.val) ∧ True
theorem brCell {σ : St} {x : Cell} {cs : List GV} (h : eCell.R σ x cs) : pCell.kd.R σ x cs := by
  obtain ⟨c0, d0, rfl, h0, h⟩ := h
  obtain rfl := h0
  obtain ⟨c1, d1, rfl, h1, h⟩ := h
  obtain rfl := brDot h1
  obtain ⟨c2, d2, rfl, h2, h⟩ := h
  obtain rfl := h2
  obtain ⟨c3, d3, rfl, h3, h⟩ := h
  obtain rfl := brDot h3
  obtain ⟨c4, d4, rfl, h4, h⟩ := h
  obtain rfl := h4
  obtain rfl := h
  rfl
def eEdit : Ek Edit := Ek.iso (Ek.pair (Ek.int .i64) (Ek.pair Ek.str (Ek.pair Ek.str (Ek.pair (Ek.int .i64) (Ek.int .i64))))) (fun x => (x.kind, x.obj, x.key, x.val, x.place))
def zEdit (x : Edit) : Prop := I64 (x.kind) ∧ (x.obj).size ≤ 9223372036854775807 ∧ (x.key).size ≤ 9223372036854775807 ∧ I64 (x.val) ∧ I64 (x.place)
theorem brEdit {σ : St} {x : Edit} {cs : List GV} (h : eEdit.R σ x cs) : pEdit.kd.R σ x cs := by
  obtain ⟨c0, d0, rfl, h0, h⟩ := h
  obtain rfl := h0
  obtain ⟨c1, d1, rfl, h1, h⟩ := h
  obtain rfl := h1
  obtain ⟨c2, d2, rfl, h2, h⟩ := h
  obtain rfl := h2
  obtain ⟨c3, d3, rfl, h3, h⟩ := h
  obtain rfl := h3
  obtain rfl := h
  rfl
def eWatch : Ek Watch := Ek.iso (Ek.pair (Ek.int .i64) (Ek.pair Ek.str Ek.str)) (fun x => (x.kind, x.obj, x.key))
def zWatch (x : Watch) : Prop := I64 (x.kind) ∧ (x.obj).size ≤ 9223372036854775807 ∧ (x.key).size ≤ 9223372036854775807
theorem brWatch {σ : St} {x : Watch} {cs : List GV} (h : eWatch.R σ x cs) : pWatch.kd.R σ x cs := by
  obtain ⟨c0, d0, rfl, h0, h⟩ := h
  obtain rfl := h0
  obtain ⟨c1, d1, rfl, h1, h⟩ := h
  obtain rfl := h1
  obtain rfl := h
  rfl
def eClash : Ek Clash := Ek.iso (Ek.pair Ek.str Ek.str) (fun x => (x.obj, x.key))
def zClash (x : Clash) : Prop := (x.obj).size ≤ 9223372036854775807 ∧ (x.key).size ≤ 9223372036854775807
theorem brClash {σ : St} {x : Clash} {cs : List GV} (h : eClash.R σ x cs) : pClash.kd.R σ x cs := by
  obtain ⟨c0, d0, rfl, h0, h⟩ := h
  obtain rfl := h0
  obtain rfl := h
  rfl
def eFile : Ek File := Ek.iso (Ek.pair Ek.str (Ek.int .i64)) (fun x => (x.text, x.synced))
def zFile (x : File) : Prop := (x.text).size ≤ 9223372036854775807 ∧ I64 (x.synced)
theorem brFile {σ : St} {x : File} {cs : List GV} (h : eFile.R σ x cs) : pFile.kd.R σ x cs := by
  obtain ⟨c0, d0, rfl, h0, h⟩ := h
  obtain rfl := h0
  obtain rfl := h
  rfl
def eLetter : Ek Letter := Ek.iso (Ek.pair (Ek.int .i64) Ek.str) (fun x => (x.to, x.text))
def zLetter (x : Letter) : Prop := I64 (x.to) ∧ (x.text).size ≤ 9223372036854775807
theorem brLetter {σ : St} {x : Letter} {cs : List GV} (h : eLetter.R σ x cs) : pLetter.kd.R σ x cs := by
  obtain ⟨c0, d0, rfl, h0, h⟩ := h
  obtain rfl := h0
  obtain rfl := h
  rfl
def eEvent : Ek Event := Ek.iso (Ek.pair (Ek.int .i64) (Ek.pair (Ek.int .i64) (Ek.pair (Ek.int .i64) eEdit))) (fun x => (x.kind, x.at_, x.num, x.edit))
def zEvent (x : Event) : Prop := I64 (x.kind) ∧ I64 (x.at_) ∧ I64 (x.num) ∧ zEdit (x.edit)
theorem brEvent {σ : St} {x : Event} {cs : List GV} (h : eEvent.R σ x cs) : pEvent.kd.R σ x cs := by
  obtain ⟨c0, d0, rfl, h0, h⟩ := h
  obtain rfl := h0
  obtain ⟨c1, d1, rfl, h1, h⟩ := h
  obtain rfl := h1
  obtain ⟨c2, d2, rfl, h2, h⟩ := h
  obtain rfl := h2
  obtain rfl := brEdit h
  rfl
def eAct : Ek Act := Ek.iso (Ek.pair eDot (Ek.pair (Ek.int .i64) (Ek.pair (Ek.slice (Ek.int .i64)) (Ek.pair (Ek.int .i64) (Ek.pair Ek.str (Ek.pair Ek.str (Ek.pair (Ek.int .i64) eDot))))))) (fun x => (x.dot, x.time, x.knew, x.kind, x.obj, x.key, x.val, x.ref))
def zAct (x : Act) : Prop := zDot (x.dot) ∧ I64 (x.time) ∧ ((x.knew).length ≤ 9223372036854775807 ∧ ∀ y4 ∈ x.knew, I64 (y4)) ∧ I64 (x.kind) ∧ (x.obj).size ≤ 9223372036854775807 ∧ (x.key).size ≤ 9223372036854775807 ∧ I64 (x.val) ∧ zDot (x.ref)
theorem brAct {σ : St} {x : Act} {cs : List GV} (h : eAct.R σ x cs) : kAct.R σ x cs := by
  obtain ⟨c0, d0, rfl, h0, h⟩ := h
  obtain rfl := brDot h0
  obtain ⟨c1, d1, rfl, h1, h⟩ := h
  obtain rfl := h1
  obtain ⟨c2, d2, rfl, h2, h⟩ := h
  obtain ⟨v2, rfl, s2⟩ := h2
  obtain ⟨c3, d3, rfl, h3, h⟩ := h
  obtain rfl := h3
  obtain ⟨c4, d4, rfl, h4, h⟩ := h
  obtain rfl := h4
  obtain ⟨c5, d5, rfl, h5, h⟩ := h
  obtain rfl := h5
  obtain ⟨c6, d6, rfl, h6, h⟩ := h
  obtain rfl := h6
  obtain rfl := brDot h
  exact ⟨v2, rfl, s2.rs rfl (fun h => h)⟩
def eState : Ek State := Ek.iso (Ek.pair (Ek.slice (Ek.int .i64)) (Ek.pair (Ek.slice eTally) (Ek.pair (Ek.slice eLive) (Ek.slice eCell)))) (fun x => (x.know, x.tallies, x.lives, x.cells))
def zState (x : State) : Prop := ((x.know).length ≤ 9223372036854775807 ∧ ∀ y4 ∈ x.know, I64 (y4)) ∧ ((x.tallies).length ≤ 9223372036854775807 ∧ ∀ y6 ∈ x.tallies, zTally (y6)) ∧ ((x.lives).length ≤ 9223372036854775807 ∧ ∀ y5 ∈ x.lives, zLive (y5)) ∧ ((x.cells).length ≤ 9223372036854775807 ∧ ∀ y5 ∈ x.cells, zCell (y5))
theorem brState {σ : St} {x : State} {cs : List GV} (h : eState.R σ x cs) : kState.R σ x cs := by
  obtain ⟨c0, d0, rfl, h0, h⟩ := h
  obtain ⟨v0, rfl, s0⟩ := h0
  obtain ⟨c1, d1, rfl, h1, h⟩ := h
  obtain ⟨v1, rfl, s1⟩ := h1
  obtain ⟨c2, d2, rfl, h2, h⟩ := h
  obtain ⟨v2, rfl, s2⟩ := h2
  obtain ⟨v3, rfl, s3⟩ := h
  exact ⟨v0, v1, v2, v3, rfl, s0.rs rfl (fun h => h), s1.rs rfl (brTally), s2.rs rfl (brLive), s3.rs rfl (brCell)⟩
def eDelta : Ek Delta := Ek.iso (Ek.pair (Ek.slice (Ek.int .i64)) (Ek.pair (Ek.slice (Ek.int .i64)) (Ek.pair (Ek.slice eTally) (Ek.pair (Ek.slice eLive) (Ek.pair (Ek.slice eDot) (Ek.slice eCell)))))) (fun x => (x.base, x.know, x.tallies, x.lives, x.dead, x.cells))
def zDelta (x : Delta) : Prop := ((x.base).length ≤ 9223372036854775807 ∧ ∀ y4 ∈ x.base, I64 (y4)) ∧ ((x.know).length ≤ 9223372036854775807 ∧ ∀ y4 ∈ x.know, I64 (y4)) ∧ ((x.tallies).length ≤ 9223372036854775807 ∧ ∀ y6 ∈ x.tallies, zTally (y6)) ∧ ((x.lives).length ≤ 9223372036854775807 ∧ ∀ y5 ∈ x.lives, zLive (y5)) ∧ ((x.dead).length ≤ 9223372036854775807 ∧ ∀ y4 ∈ x.dead, zDot (y4)) ∧ ((x.cells).length ≤ 9223372036854775807 ∧ ∀ y5 ∈ x.cells, zCell (y5))
theorem brDelta {σ : St} {x : Delta} {cs : List GV} (h : eDelta.R σ x cs) : kDelta.R σ x cs := by
  obtain ⟨c0, d0, rfl, h0, h⟩ := h
  obtain ⟨v0, rfl, s0⟩ := h0
  obtain ⟨c1, d1, rfl, h1, h⟩ := h
  obtain ⟨v1, rfl, s1⟩ := h1
  obtain ⟨c2, d2, rfl, h2, h⟩ := h
  obtain ⟨v2, rfl, s2⟩ := h2
  obtain ⟨c3, d3, rfl, h3, h⟩ := h
  obtain ⟨v3, rfl, s3⟩ := h3
  obtain ⟨c4, d4, rfl, h4, h⟩ := h
  obtain ⟨v4, rfl, s4⟩ := h4
  obtain ⟨v5, rfl, s5⟩ := h
  exact ⟨v0, v1, v2, v3, v4, v5, rfl, s0.rs rfl (fun h => h), s1.rs rfl (fun h => h), s2.rs rfl (brTally), s3.rs rfl (brLive), s4.rs rfl (brDot), s5.rs rfl (brCell)⟩
def eUnit_ : Ek Unit_ := Ek.iso (Ek.pair Ek.bool (Ek.pair eAct eDelta)) (fun x => (x.batch, x.act, x.delta))
def zUnit_ (x : Unit_) : Prop := True ∧ zAct (x.act) ∧ zDelta (x.delta)
theorem brUnit_ {σ : St} {x : Unit_} {cs : List GV} (h : eUnit_.R σ x cs) : kUnit_.R σ x cs := by
  obtain ⟨c0, d0, rfl, h0, h⟩ := h
  obtain rfl := h0
  obtain ⟨c1, d1, rfl, h1, h⟩ := h
  have s1 := brAct h1
  have s2 := brDelta h
  exact ⟨_, _, by simp [pDot, pFile], s1, s2⟩
def eLog : Ek Log := Ek.iso (Ek.pair (Ek.int .i64) (Ek.pair (Ek.int .i64) (Ek.pair eState (Ek.pair (Ek.slice eUnit_) (Ek.slice eUnit_))))) (fun x => (x.rep, x.time, x.state, x.units, x.waits))
def zLog (x : Log) : Prop := I64 (x.rep) ∧ I64 (x.time) ∧ zState (x.state) ∧ ((x.units).length ≤ 9223372036854775807 ∧ ∀ y6 ∈ x.units, zUnit_ (y6)) ∧ ((x.waits).length ≤ 9223372036854775807 ∧ ∀ y6 ∈ x.waits, zUnit_ (y6))
theorem brLog {σ : St} {x : Log} {cs : List GV} (h : eLog.R σ x cs) : kLog.R σ x cs := by
  obtain ⟨c0, d0, rfl, h0, h⟩ := h
  obtain rfl := h0
  obtain ⟨c1, d1, rfl, h1, h⟩ := h
  obtain rfl := h1
  obtain ⟨c2, d2, rfl, h2, h⟩ := h
  have s2 := brState h2
  obtain ⟨c3, d3, rfl, h3, h⟩ := h
  obtain ⟨v3, rfl, s3⟩ := h3
  obtain ⟨v4, rfl, s4⟩ := h
  exact ⟨_, v3, v4, by simp [pDot, pFile], s2, s3.rs rfl (brUnit_), s4.rs rfl (brUnit_)⟩
def eCommit : Ek Commit := Ek.iso (Ek.pair eDot (Ek.pair (Ek.slice (Ek.int .i64)) eState)) (fun x => (x.id, x.ups, x.state))
def zCommit (x : Commit) : Prop := zDot (x.id) ∧ ((x.ups).length ≤ 9223372036854775807 ∧ ∀ y4 ∈ x.ups, I64 (y4)) ∧ zState (x.state)
theorem brCommit {σ : St} {x : Commit} {cs : List GV} (h : eCommit.R σ x cs) : kCommit.R σ x cs := by
  obtain ⟨c0, d0, rfl, h0, h⟩ := h
  obtain rfl := brDot h0
  obtain ⟨c1, d1, rfl, h1, h⟩ := h
  obtain ⟨v1, rfl, s1⟩ := h1
  have s2 := brState h
  exact ⟨v1, _, by simp [pDot, pFile], s1.rs rfl (fun h => h), s2⟩
def eGraph : Ek Graph := Ek.iso (Ek.pair (Ek.slice eCommit) (Ek.int .i64)) (fun x => (x.commits, x.head))
def zGraph (x : Graph) : Prop := ((x.commits).length ≤ 9223372036854775807 ∧ ∀ y7 ∈ x.commits, zCommit (y7)) ∧ I64 (x.head)
theorem brGraph {σ : St} {x : Graph} {cs : List GV} (h : eGraph.R σ x cs) : kGraph.R σ x cs := by
  obtain ⟨c0, d0, rfl, h0, h⟩ := h
  obtain ⟨v0, rfl, s0⟩ := h0
  obtain rfl := h
  exact ⟨v0, rfl, s0.rs rfl (brCommit)⟩
def eReplica : Ek Replica := Ek.iso (Ek.pair (Ek.int .i64) (Ek.pair eLog (Ek.pair eGraph (Ek.pair eFile (Ek.slice eUnit_))))) (fun x => (x.way, x.log, x.graph, x.file, x.out))
def zReplica (x : Replica) : Prop := I64 (x.way) ∧ zLog (x.log) ∧ zGraph (x.graph) ∧ zFile (x.file) ∧ ((x.out).length ≤ 9223372036854775807 ∧ ∀ y6 ∈ x.out, zUnit_ (y6))
theorem brReplica {σ : St} {x : Replica} {cs : List GV} (h : eReplica.R σ x cs) : kReplica.R σ x cs := by
  obtain ⟨c0, d0, rfl, h0, h⟩ := h
  obtain rfl := h0
  obtain ⟨c1, d1, rfl, h1, h⟩ := h
  have s1 := brLog h1
  obtain ⟨c2, d2, rfl, h2, h⟩ := h
  have s2 := brGraph h2
  obtain ⟨c3, d3, rfl, h3, h⟩ := h
  obtain rfl := brFile h3
  obtain ⟨v4, rfl, s4⟩ := h
  exact ⟨_, _, v4, by simp [pDot, pFile], s1, s2, s4.rs rfl (brUnit_)⟩
def eWorld_ : Ek World_ := Ek.iso (Ek.pair (Ek.slice eReplica) (Ek.pair (Ek.slice eLetter) (Ek.pair (Ek.slice (Ek.int .i64)) (Ek.slice (Ek.slice (Ek.int .i64)))))) (fun x => (x.replicas, x.net, x.codes, x.synced))
def zWorld_ (x : World_) : Prop := ((x.replicas).length ≤ 9223372036854775807 ∧ ∀ y8 ∈ x.replicas, zReplica (y8)) ∧ ((x.net).length ≤ 9223372036854775807 ∧ ∀ y7 ∈ x.net, zLetter (y7)) ∧ ((x.codes).length ≤ 9223372036854775807 ∧ ∀ y4 ∈ x.codes, I64 (y4)) ∧ ((x.synced).length ≤ 9223372036854775807 ∧ ∀ y5 ∈ x.synced, ((y5).length ≤ 9223372036854775807 ∧ ∀ y4 ∈ y5, I64 (y4)))
theorem brWorld_ {σ : St} {x : World_} {cs : List GV} (h : eWorld_.R σ x cs) : kWorld_.R σ x cs := by
  obtain ⟨c0, d0, rfl, h0, h⟩ := h
  obtain ⟨v0, rfl, s0⟩ := h0
  obtain ⟨c1, d1, rfl, h1, h⟩ := h
  obtain ⟨v1, rfl, s1⟩ := h1
  obtain ⟨c2, d2, rfl, h2, h⟩ := h
  obtain ⟨v2, rfl, s2⟩ := h2
  obtain ⟨v3, rfl, s3⟩ := h
  exact ⟨v0, v1, v2, v3, rfl, s0.rs rfl (brReplica), s1.rs rfl (brLetter), s2.rs rfl (fun h => h), s3.rs rfl (fun h => Sl.brs rfl (fun h => h) h)⟩
def eScript : Ek Script := Ek.iso (Ek.pair (Ek.slice (Ek.int .i64)) (Ek.pair (Ek.slice eEvent) Ek.bool)) (fun x => (x.ways, x.events, x.calm))
def zScript (x : Script) : Prop := ((x.ways).length ≤ 9223372036854775807 ∧ ∀ y4 ∈ x.ways, I64 (y4)) ∧ ((x.events).length ≤ 9223372036854775807 ∧ ∀ y6 ∈ x.events, zEvent (y6)) ∧ True
theorem brScript {σ : St} {x : Script} {cs : List GV} (h : eScript.R σ x cs) : kScript.R σ x cs := by
  obtain ⟨c0, d0, rfl, h0, h⟩ := h
  obtain ⟨v0, rfl, s0⟩ := h0
  obtain ⟨c1, d1, rfl, h1, h⟩ := h
  obtain ⟨v1, rfl, s1⟩ := h1
  obtain rfl := h
  exact ⟨v0, v1, rfl, s0.rs rfl (fun h => h), s1.rs rfl (brEvent)⟩
end Go.Proofs.Ytffnefmklckngaa.Sy

