/- Lists of numbers in memory. -/
import Derived.Test.YtopannfdcikgiaaSy18
namespace Go.Proofs.Ytopannfdcikgiaa.Sy
open Go Go.RowKit
@[go_sem] theorem isOut_ret : isOut .ret = true := (rfl)
@[go_sem] theorem isOut_nxt : isOut .nxt = true := (rfl)
@[go_sem] theorem resG_one {env : Env} {σ : St} {r : Rs} : resG env σ [r] = r.ev env σ := (rfl)
@[go_sem] theorem rs_t {env : Env} {σ : St} {n : Nat} : (Rs.t n).ev env σ = some (env n) := (rfl)
@[go_sem] theorem bit_bool {b : Bool} : (GV.bool b).bit = some b := (rfl)
@[go_sem] theorem bin_add {k : IntKind} {a b : Int} : binG .add (.int k a) (.int k b) = some (.int k (k.wrap (a + b))) := by simp [binG, intG]
@[go_sem] theorem bin_sub {k : IntKind} {a b : Int} : binG .sub (.int k a) (.int k b) = some (.int k (k.wrap (a - b))) := by simp [binG, intG]
@[go_sem] theorem bin_mul {k : IntKind} {a b : Int} : binG .mul (.int k a) (.int k b) = some (.int k (k.wrap (a * b))) := by simp [binG, intG]
@[go_sem] theorem bin_quo {k : IntKind} {a b : Int} : binG .quo (.int k a) (.int k b) = if b = 0 then none else some (.int k (k.wrap (a.tdiv b))) := by simp [binG, intG]
@[go_sem] theorem bin_rem {k : IntKind} {a b : Int} : binG .rem (.int k a) (.int k b) = if b = 0 then none else some (.int k (a.tmod b)) := by simp [binG, intG]
@[go_sem] theorem bin_and {k : IntKind} {a b : Int} : binG .and (.int k a) (.int k b) = bitG k (BitVec.ofInt k.bits a &&& BitVec.ofInt k.bits b) := by simp [binG, intG]
@[go_sem] theorem bin_or {k : IntKind} {a b : Int} : binG .or (.int k a) (.int k b) = bitG k (BitVec.ofInt k.bits a ||| BitVec.ofInt k.bits b) := by simp [binG, intG]
@[go_sem] theorem bin_xor {k : IntKind} {a b : Int} : binG .xor (.int k a) (.int k b) = bitG k (BitVec.ofInt k.bits a ^^^ BitVec.ofInt k.bits b) := by simp [binG, intG]
@[go_sem] theorem bin_andNot {k : IntKind} {a b : Int} : binG .andNot (.int k a) (.int k b) = bitG k (BitVec.ofInt k.bits a &&& ~~~ BitVec.ofInt k.bits b) := by simp [binG, intG]
@[go_sem] theorem bin_eql {k : IntKind} {a b : Int} : binG .eql (.int k a) (.int k b) = some (.bool (a == b)) := by simp [binG, intG]
@[go_sem] theorem bin_neq {k : IntKind} {a b : Int} : binG .neq (.int k a) (.int k b) = some (.bool (a != b)) := by simp [binG, intG]
@[go_sem] theorem bin_lss {k : IntKind} {a b : Int} : binG .lss (.int k a) (.int k b) = some (.bool (decide (a < b))) := by simp [binG, intG]
@[go_sem] theorem bin_leq {k : IntKind} {a b : Int} : binG .leq (.int k a) (.int k b) = some (.bool (decide (a ≤ b))) := by simp [binG, intG]
@[go_sem] theorem bin_gtr {k : IntKind} {a b : Int} : binG .gtr (.int k a) (.int k b) = some (.bool (decide (b < a))) := by simp [binG, intG]
@[go_sem] theorem bin_geq {k : IntKind} {a b : Int} : binG .geq (.int k a) (.int k b) = some (.bool (decide (b ≤ a))) := by simp [binG, intG]
@[go_sem] theorem bin_shl {k k' : IntKind} {a b : Int} : binG .shl (.int k a) (.int k' b) = shiftG .shl k a b := (rfl)
@[go_sem] theorem bin_shr {k k' : IntKind} {a b : Int} : binG .shr (.int k a) (.int k' b) = shiftG .shr k a b := (rfl)
@[go_sem] theorem bin_sadd {a b : ByteArray} : binG .add (.str a) (.str b) = if a.size + b.size ≤ 9223372036854775807 then some (.str (a ++ b)) else none := (rfl)
theorem toList_beq (a b : ByteArray) : (a.toList == b.toList) = decide (a = b) := by
  by_cases h : a = b
  · subst h; simp
  · have : ¬ a.toList = b.toList := fun e => by
      rw [ByteArray.toList_eq, ByteArray.toList_eq] at e
      exact h (ByteArray.ext (Array.ext' e))
    rw [decide_eq_false h]
    exact beq_eq_false_iff_ne.2 this
@[go_sem] theorem bin_seql {a b : ByteArray} : binG .eql (.str a) (.str b) = some (.bool (decide (a = b))) := by simp only [binG, strG, toList_beq]
@[go_sem] theorem bin_sneq {a b : ByteArray} : binG .neq (.str a) (.str b) = some (.bool !(decide (a = b))) := by simp only [binG, strG, toList_beq]
@[go_sem] theorem un_not {b : Bool} : unG .not (.bool b) = some (.bool !b) := (rfl)
@[go_sem] theorem un_neg {k : IntKind} {n : Int} : unG .neg (.int k n) = some (.int k (k.wrap (0 - n))) := (rfl)
theorem natOf_nat {k : IntKind} {n : Nat} : natOf (some (.int k (n : Int))) = some n := by simp [natOf]
attribute [go_sem] natOf_nat
attribute [go_sem] Option.map_some Option.bind_some
@[go_sem] theorem mm_int {m : Bool} {k k' : IntKind} {a b : Int} : mmG m (.int k a) (.int k' b) = some (.int k (if m then (if b > a then b else a) else (if b < a then b else a))) := (rfl)
@[go_sem] theorem nck_ptr {g off : Nat} : nckG (.ptr g off) = some (.ptr g off) := (rfl)
@[go_sem] theorem fad_ptr {n g off : Nat} : fadG n (.ptr g off) = some (.ptr g (off + n)) := (rfl)
@[go_sem] theorem fillG_nil {cs : List GV} : fillG cs [] = some cs := (rfl)
@[go_sem] theorem fillG_int {c : GV} {k : IntKind} {n : Int} : fillG [c] [(0, 1, .int k n)] = some [.int k n] := (rfl)
@[go_sem] theorem fillG_str {c : GV} {s : ByteArray} : fillG [c] [(0, 1, .str s)] = some [.str s] := (rfl)
attribute [go_sem] List.map_nil List.map_cons
attribute [go_sem] List.getD_cons_zero List.getD_cons_succ List.prefix_refl Bool.true_and Bool.false_and Bool.and_true Bool.and_false and_self implies_true Bool.false_eq_true true_and and_true false_implies true_implies Bool.not_true Bool.not_false
/-- Numbers in a row, written or not. -/
def Rd (σ : St) (v : GV) (l : List Int) : Prop :=
  (l = [] ∧ (v = .nilS ∨ v = .emp)) ∨ ∃ g off cs, v = .sl g off l.length ∧ rdB σ g = some cs ∧ off + l.length ≤ cs.length ∧ ∀ (i : Nat) x, l[i]? = some x → cs[off + i]? = some (gi x)
theorem rdB_pre {σ τ : St} (h : σ <+: τ) {g : Nat} {cs : List GV} (hr : rdB σ g = some cs) : rdB τ g = some cs := by
  unfold rdB at *
  obtain ⟨r, rfl⟩ := h
  split at hr
  · rename_i B hB
    have := (List.getElem?_eq_some_iff.1 hB).1
    rw [List.getElem?_append_left this, hB]; exact hr
  · cases hr
theorem Rd.pre {σ τ : St} {v : GV} {l : List Int} (h : Rd σ v l) (hp : σ <+: τ) : Rd τ v l := by
  rcases h with h | ⟨g, off, cs, h1, h2, h3⟩
  · exact .inl h
  · exact .inr ⟨g, off, cs, h1, rdB_pre hp h2, h3⟩
theorem Rd.len {σ : St} {v : GV} {l : List Int} (h : Rd σ v l) : lenG false v = some (l.length : Int) := by
  rcases h with ⟨rfl, rfl | rfl⟩ | ⟨g, off, cs, rfl, _⟩ <;> rfl
def at1 (v : GV) (i : Nat) : GV := (iadG 1 v (some i)).getD .nilP
theorem Rd.iad {σ : St} {v : GV} {l : List Int} (h : Rd σ v l) {i : Nat} (hi : i < l.length) : iadG 1 v (some i) = some (at1 v i) := by
  rcases h with ⟨rfl, _⟩ | ⟨g, off, cs, rfl, _⟩
  · simp at hi
  · simp [at1, iadG, hi]
theorem seg_one {cs : List GV} {off : Nat} {c : GV} (h : cs[off]? = some c) : seg cs off 1 = some [c] := by
  have := (List.getElem?_eq_some_iff.1 h).1
  unfold seg
  rw [if_pos (by omega), List.drop_eq_getElem_cons this]
  have e : cs[off] = c := by rw [List.getElem?_eq_getElem this] at h; injection h
  simp [e]
theorem Rd.ld {σ : St} {v : GV} {l : List Int} (h : Rd σ v l) {i : Nat} (hi : i < l.length) : ldG false 1 σ (at1 v i) = some (gi l[i]) := by
  rcases h with ⟨rfl, _⟩ | ⟨g, off, cs, rfl, h2, h3, h4⟩
  · simp at hi
  · have h5 := h4 i l[i] (List.getElem?_eq_getElem hi)
    simp only [at1, iadG, if_pos hi, Option.getD_some, ldG, h2, Option.bind_some, Nat.mul_one, seg_one h5, mkv, Bool.false_eq_true, if_false, List.head?_cons]
theorem wrap_add {a : Int} (h : -9223372036854775808 ≤ a) (h' : a ≤ 9223372036854775807) : IntKind.i64.wrap a = a := wrap64 h h'
/-- A row of numbers of our own, from block b on. -/
def OwnI (b : Nat) (τ : St) (v : GV) (l : List Int) : Prop := (l = [] ∧ v = .nilS) ∨ ∃ g, b ≤ g ∧ v = .sl g 0 l.length ∧ bk τ g = some (.row 1 (l.map gi))
theorem OwnI.rd {b : Nat} {τ : St} {v : GV} {l : List Int} (h : OwnI b τ v l) : Rd τ v l := by
  rcases h with ⟨h1, h2⟩ | ⟨g, hb, hv, hB⟩
  · exact .inl ⟨h1, .inl h2⟩
  · refine .inr ⟨g, 0, l.map gi, hv, ?_, by simp, fun i x hx => ?_⟩
    · unfold rdB; rw [bk_some.1 hB]; rfl
    · simp [hx]
theorem OwnI.pre {b : Nat} {τ τ' : St} {v : GV} {l : List Int} (h : OwnI b τ v l) (hp : τ <+: τ') : OwnI b τ' v l := by
  rcases h with h | ⟨g, hb, hv, hB⟩
  · exact .inl h
  · exact .inr ⟨g, hb, hv, bk_pre hp hB⟩
theorem OwnI.le {b c : Nat} {τ : St} {v : GV} {l : List Int} (h : OwnI b τ v l) (hc : c ≤ b) : OwnI c τ v l := by
  rcases h with h | ⟨g, hb, hv, hB⟩
  · exact .inl h
  · exact .inr ⟨g, Nat.le_trans hc hb, hv, hB⟩
theorem pre_set {σ τ : St} (h : σ <+: τ) {g : Nat} (hg : σ.length ≤ g) (x : Option Blk) : σ <+: τ.set g x := by
  obtain ⟨r, rfl⟩ := h
  rw [List.set_append_right _ _ hg]
  exact List.prefix_append _ _
theorem pre_app {σ τ : St} (h : σ <+: τ) (r : St) : σ <+: τ ++ r := h.trans (List.prefix_append _ _)
theorem bk_app_lt {τ : St} {g : Nat} {r : St} (h : g < τ.length) : bk (τ ++ r) g = bk τ g := by
  unfold bk; rw [List.getElem?_append_left h]
theorem bk_app_at {τ : St} {B : Option Blk} : bk (τ ++ [B]) τ.length = B := by
  unfold bk; simp
theorem bk_set_ne {τ : St} {g k : Nat} {x : Option Blk} (h : g ≠ k) : bk (τ.set g x) k = bk τ k := by
  unfold bk; rw [List.getElem?_set_ne h]
theorem bk_lt {τ : St} {g : Nat} {B : Blk} (h : bk τ g = some B) : g < τ.length := (List.getElem?_eq_some_iff.1 (bk_some.1 h)).1
/-- One number more. -/
theorem OwnI.app1 {σ τ : St} {v : GV} {l : List Int} (h : OwnI σ.length τ v l) (hp : σ <+: τ) (n : Int) (hb : (l.length + 1) * 8 ≤ 140737488355328) :
    ∃ v' τ', appV 1 8 (τ ++ [some (.row 1 [gi n])]) v (.sl τ.length 0 1) = some (v', τ') ∧ OwnI σ.length τ' v' (l ++ [n]) ∧ σ <+: τ' := by
  have hel : elems (τ ++ [some (.row 1 [gi n])]) 1 (.sl τ.length 0 1) = some (1, [gi n]) := by
    simp [elems, rdB, Blk.cells, seg]
  have ha : appV 1 8 (τ ++ [some (.row 1 [gi n])]) v (.sl τ.length 0 1) = appG 1 8 (τ ++ [some (.row 1 [gi n])]) v 1 [gi n] := by
    simp only [appV, hel, Option.bind_some]
  rw [ha]
  generalize hτ1 : τ ++ [some (.row 1 [gi n])] = τ1
  have hp1 : σ <+: τ1 := by rw [← hτ1]; exact pre_app hp _
  have hle1 := hp1.length_le
  rcases h with ⟨rfl, rfl⟩ | ⟨g, hg, rfl, hB⟩
  · exact ⟨.sl τ1.length 0 1, τ1 ++ [some (.row 1 [gi n])], by simp [appG], .inr ⟨τ1.length, hle1, rfl, bk_app_at⟩, pre_app hp1 _⟩
  · have hlt := bk_lt hB
    have hB1 : τ1[g]? = some (some (.row 1 (l.map gi))) := by rw [← hτ1, List.getElem?_append_left hlt]; exact bk_some.1 hB
    have e : ((l.map gi).drop 0).take (l.length * 1) ++ [gi n] = (l ++ [n]).map gi := by
      rw [List.drop_zero, Nat.mul_one, List.take_of_length_le (by simp), List.map_append]; rfl
    refine ⟨.sl τ1.length 0 (l.length + 1), τ1.set g none ++ [some (.row 1 ((l ++ [n]).map gi))], ?_, .inr ⟨τ1.length, hle1, by simp, ?_⟩, pre_app (pre_set hp1 hg _) _⟩
    · have c1 : 0 + l.length * 1 ≤ (l.map gi).length := by simp
      simp only [appG, hB1, ← e]
      rw [if_neg (by omega)]
      simp only [c1, hb, and_self, if_true]
    · have e2 : τ1.length = (τ1.set g none).length := by simp
      rw [e2, bk_app_at]
theorem Rd.elems {τ : St} {x : GV} {m : List Int} (h : Rd τ x m) : Sy.elems τ 1 x = some (m.length, m.map gi) := by
  rcases h with ⟨rfl, rfl | rfl⟩ | ⟨g, off, cs, rfl, h2, h3, h4⟩
  · rfl
  · rfl
  · have e : seg cs off (m.length * 1) = some (m.map gi) := by
      unfold seg
      rw [if_pos (by omega)]
      congr 1
      apply List.ext_getElem?
      intro i
      rw [List.getElem?_take, Nat.mul_one]
      by_cases hi : i < m.length
      · rw [if_pos hi, List.getElem?_drop, h4 i m[i] (List.getElem?_eq_getElem hi)]
        simp [hi]
      · rw [if_neg hi, List.getElem?_eq_none (by simp; omega)]
    simp only [Sy.elems, h2, Option.bind_some, e, Option.map_some]
theorem OwnI.app {σ τ : St} {v x : GV} {l m : List Int} (h : OwnI σ.length τ v l) (hp : σ <+: τ) (hx : Rd τ x m) (hb : (l.length + m.length) * 8 ≤ 140737488355328) :
    ∃ v' τ', appV 1 8 τ v x = some (v', τ') ∧ OwnI σ.length τ' v' (l ++ m) ∧ σ <+: τ' := by
  have ha : appV 1 8 τ v x = appG 1 8 τ v m.length (m.map gi) := by
    have he := hx.elems
    unfold appV
    rcases hx with ⟨rfl, rfl | rfl⟩ | ⟨g, off, cs, rfl, _⟩ <;> simp only [he, Option.bind_some]
  rw [ha]
  have hle1 := hp.length_le
  by_cases hm : m.length = 0
  · have : m = [] := List.eq_nil_of_length_eq_zero hm
    subst this
    refine ⟨v, τ, ?_, by simpa using h, hp⟩
    rcases h with ⟨rfl, rfl⟩ | ⟨g, hg, rfl, hB⟩ <;> simp [appG, isSl]
  · rcases h with ⟨rfl, rfl⟩ | ⟨g, hg, rfl, hB⟩
    · have hb' : m.length * 8 ≤ 140737488355328 := by simpa using hb
      exact ⟨.sl τ.length 0 m.length, τ ++ [some (.row 1 (m.map gi))], by simp only [appG]; rw [if_neg hm, if_pos hb'], .inr ⟨τ.length, hle1, rfl, bk_app_at⟩, pre_app hp _⟩
    · have hlt := bk_lt hB
      have e : ((l.map gi).drop 0).take (l.length * 1) ++ m.map gi = (l ++ m).map gi := by
        rw [List.drop_zero, Nat.mul_one, List.take_of_length_le (by simp), List.map_append]
      refine ⟨.sl τ.length 0 (l.length + m.length), τ.set g none ++ [some (.row 1 ((l ++ m).map gi))], ?_, .inr ⟨τ.length, hle1, by simp, ?_⟩, pre_app (pre_set hp hg _) _⟩
      · have c1 : 0 + l.length * 1 ≤ (l.map gi).length := by simp
        simp only [appG, bk_some.1 hB, ← e]
        rw [if_neg hm]
        simp only [c1, hb, and_self, if_true]
      · have e2 : τ.length = (τ.set g none).length := by simp
        rw [e2, bk_app_at]
/-- A number of a row of our own is written. -/
theorem OwnI.stb {b : Nat} {τ : St} {v : GV} {l : List Int} (h : OwnI b τ v l) {i : Nat} (hi : i < l.length) (n : Int) :
    ∃ τ', stG 1 τ (at1 v i) (gi n) = some (.tup [], τ') ∧ OwnI b τ' v (l.set i n) ∧ τ'.length = τ.length ∧ (∀ g, (∀ n, v ≠ .sl g 0 n) → bk τ' g = bk τ g) ∧ ∀ {σ : St}, σ <+: τ → σ.length ≤ b → σ <+: τ' := by
  rcases h with ⟨rfl, rfl⟩ | ⟨g, hg, rfl, hB⟩
  · simp at hi
  · have hlt := bk_lt hB
    refine ⟨τ.set g (some (.row 1 ((l.set i n).map gi))), ?_, .inr ⟨g, hg, by simp, ?_⟩, by simp, fun g' hg' => bk_set_ne (fun e => hg' l.length (by rw [e])), fun hp hb => pre_set hp (Nat.le_trans hb hg) _⟩
    · have e : at1 (.sl g 0 l.length) i = .ptr g i := by simp [at1, iadG, hi]
      rw [e]
      simp only [stG, bk_some.1 hB]
      rw [if_pos ⟨by simp; omega, by omega, rfl⟩]
      have e3 : splice (l.map gi) i (gi n).cells = (l.set i n).map gi := by
        apply List.ext_getElem?
        intro j
        rw [splice_get (by simp [GV.cells]; omega)]
        simp only [GV.cells, List.length_cons, List.length_nil, List.getElem?_map, List.getElem?_set]
        by_cases hj : j = i
        · subst hj
          rw [if_pos (by omega), if_pos rfl, if_pos hi]
          simp
        · rw [if_neg (by omega), if_neg (fun h => hj h.symm)]
      rw [e3]
    · exact bk_some.2 (by rw [List.getElem?_set_self hlt])
theorem OwnI.st {σ τ : St} {v : GV} {l : List Int} (h : OwnI σ.length τ v l) (hp : σ <+: τ) {i : Nat} (hi : i < l.length) (n : Int) :
    ∃ τ', stG 1 τ (at1 v i) (gi n) = some (.tup [], τ') ∧ OwnI σ.length τ' v (l.set i n) ∧ σ <+: τ' := by
  obtain ⟨τ', h1, h2, _, _, h3⟩ := h.stb hi n
  exact ⟨τ', h1, h2, h3 hp (Nat.le_refl _)⟩
theorem take_snoc {α : Type} {l : List α} {i : Nat} (h : i < l.length) : l.take (i + 1) = l.take i ++ [l[i]] := by rw [List.take_add_one, List.getElem?_eq_getElem h]; rfl
theorem take_all_succ {α : Type} {l : List α} {p : α → Bool} {i : Nat} (h : i < l.length) (ha : (l.take i).all p = true) (hp : p l[i] = true) : (l.take (i + 1)).all p = true := by
  have e : l.take (i + 1) = l.take i ++ [l[i]] := by rw [List.take_add_one, List.getElem?_eq_getElem h]; rfl
  rw [e, List.all_append, ha]
  simp [hp]
theorem all_false_at {α : Type} {l : List α} {p : α → Bool} {i : Nat} (h : i < l.length) (hp : p l[i] = false) : l.all p = false := by
  cases ha : l.all p with
  | false => rfl
  | true => rw [List.all_eq_true.1 ha _ (List.getElem_mem h)] at hp; cases hp
theorem len_beq {n m : Nat} : (((n : Int) == (m : Int)) : Bool) = decide (n = m) := by
  cases h : decide (n = m) with
  | true => have := of_decide_eq_true h; subst this; simp
  | false => have := of_decide_eq_false h; simp; omega
/-- Cells in a row, told one by one. -/
def RdE {α : Type} (E : St → GV → α → Prop) (σ : St) (v : GV) (l : List α) : Prop :=
  (l = [] ∧ (v = .nilS ∨ v = .emp)) ∨ ∃ g off cs, v = .sl g off l.length ∧ rdB σ g = some cs ∧ off + l.length ≤ cs.length ∧ ∀ (i : Nat) x, l[i]? = some x → ∃ c, cs[off + i]? = some c ∧ E σ c x
theorem RdE.pre {α : Type} {E : St → GV → α → Prop} (hE : ∀ σ τ c x, E σ c x → σ <+: τ → E τ c x) {σ τ : St} {v : GV} {l : List α} (h : RdE E σ v l) (hp : σ <+: τ) : RdE E τ v l := by
  rcases h with h | ⟨g, off, cs, h1, h2, h3, h4⟩
  · exact .inl h
  · refine .inr ⟨g, off, cs, h1, rdB_pre hp h2, h3, fun i x hx => ?_⟩
    obtain ⟨c, hc, he⟩ := h4 i x hx
    exact ⟨c, hc, hE _ _ _ _ he hp⟩
theorem RdE.len {α : Type} {E : St → GV → α → Prop} {σ : St} {v : GV} {l : List α} (h : RdE E σ v l) : lenG false v = some (l.length : Int) := by
  rcases h with ⟨rfl, rfl | rfl⟩ | ⟨g, off, cs, rfl, _⟩ <;> rfl
theorem RdE.iad {α : Type} {E : St → GV → α → Prop} {σ : St} {v : GV} {l : List α} (h : RdE E σ v l) {i : Nat} (hi : i < l.length) : iadG 1 v (some i) = some (at1 v i) := by
  rcases h with ⟨rfl, _⟩ | ⟨g, off, cs, rfl, _⟩
  · simp at hi
  · simp [at1, iadG, hi]
theorem RdE.ld {α : Type} {E : St → GV → α → Prop} {σ : St} {v : GV} {l : List α} (h : RdE E σ v l) {i : Nat} (hi : i < l.length) : ∃ c, ldG false 1 σ (at1 v i) = some c ∧ E σ c l[i] := by
  rcases h with ⟨rfl, _⟩ | ⟨g, off, cs, rfl, h2, h3, h4⟩
  · simp at hi
  · obtain ⟨c, hc, he⟩ := h4 i l[i] (List.getElem?_eq_getElem hi)
    exact ⟨c, by simp only [at1, iadG, if_pos hi, Option.getD_some, ldG, h2, Option.bind_some, Nat.mul_one, seg_one hc, mkv, Bool.false_eq_true, if_false, List.head?_cons], he⟩
abbrev Rd2 := RdE Rd
theorem Rd2.pre {σ τ : St} {v : GV} {l : List (List Int)} (h : Rd2 σ v l) (hp : σ <+: τ) : Rd2 τ v l := RdE.pre (E := Rd) (fun _ _ _ _ h hp => Rd.pre h hp) h hp
theorem mks_ok {z b n : Nat} {ze : List GV} {σ : St} (h : n * b ≤ 140737488355328) : mksG z b ze σ (some n) (some n) = some (.sl σ.length 0 n, σ ++ [some (.row z (reps n ze))]) := by
  unfold mksG
  simp [h]
theorem reps_one (n : Nat) (c : GV) : reps n [c] = List.replicate n c := by
  unfold reps
  induction n with
  | zero => rfl
  | succ n ih => rw [List.replicate_succ, List.flatten_cons, ih, List.replicate_succ]; rfl
theorem OwnI.set_ne {b : Nat} {τ : St} {v : GV} {l : List Int} (h : OwnI b τ v l) {g : Nat} (hg : g < b) (x : Option Blk) : OwnI b (τ.set g x) v l := by
  rcases h with h | ⟨g', hb, hv, hB⟩
  · exact .inl h
  · exact .inr ⟨g', hb, hv, by rw [bk_set_ne (by omega)]; exact hB⟩
theorem OwnI.same {b : Nat} {τ τ' : St} {v : GV} {l : List Int} (h : OwnI b τ v l) (hs : ∀ g, b ≤ g → (∃ n, v = .sl g 0 n) → bk τ' g = bk τ g) : OwnI b τ' v l := by
  rcases h with h | ⟨g', hb, hv, hB⟩
  · exact .inl h
  · exact .inr ⟨g', hb, hv, by rw [hs g' hb ⟨_, hv⟩]; exact hB⟩
/-- Rows of our own in a row of our own. -/
def Own2 (g : Nat) (τ : St) (v : GV) (cs : List GV) (ll : List (List Int)) : Prop :=
  v = .sl g 0 ll.length ∧ bk τ g = some (.row 1 cs) ∧ cs.length = ll.length ∧ ∀ (i : Nat) l, ll[i]? = some l → ∃ c, cs[i]? = some c ∧ OwnI (g + 1) τ c l
theorem Own2.rd {g : Nat} {τ : St} {v : GV} {cs : List GV} {ll : List (List Int)} (h : Own2 g τ v cs ll) : Rd2 τ v ll := by
  obtain ⟨hv, hB, hl, hc⟩ := h
  refine .inr ⟨g, 0, cs, hv, by unfold rdB; rw [bk_some.1 hB]; rfl, by omega, fun i x hx => ?_⟩
  obtain ⟨c, h1, h2⟩ := hc i x hx
  exact ⟨c, by rw [Nat.zero_add]; exact h1, h2.rd⟩
theorem Own2.pre {g : Nat} {τ τ' : St} {v : GV} {cs : List GV} {ll : List (List Int)} (h : Own2 g τ v cs ll) (hp : τ <+: τ') : Own2 g τ' v cs ll := by
  obtain ⟨hv, hB, hl, hc⟩ := h
  exact ⟨hv, bk_pre hp hB, hl, fun i x hx => by obtain ⟨c, h1, h2⟩ := hc i x hx; exact ⟨c, h1, h2.pre hp⟩⟩
theorem pre_same {σ τ τ' : St} (h : σ <+: τ) (hl : τ'.length = τ.length) (hs : ∀ g, g < σ.length → bk τ' g = bk τ g) : σ <+: τ' := by
  obtain ⟨r, rfl⟩ := h
  refine ⟨τ'.drop σ.length, ?_⟩
  have e : σ = τ'.take σ.length := by
    apply List.ext_getElem?
    intro g
    rw [List.getElem?_take]
    by_cases hg : g < σ.length
    · rw [if_pos hg]
      have h1 := hs g hg
      unfold bk at h1
      rw [List.getElem?_append_left hg, List.getElem?_eq_getElem hg] at h1
      have hg' : g < τ'.length := by rw [hl]; simp; omega
      rw [List.getElem?_eq_getElem hg'] at h1
      simp only [Option.join_some] at h1
      rw [List.getElem?_eq_getElem hg, List.getElem?_eq_getElem hg', h1]
    · rw [if_neg hg, List.getElem?_eq_none (by omega)]
  calc σ ++ τ'.drop σ.length = τ'.take σ.length ++ τ'.drop σ.length := by rw [← e]
    _ = τ' := List.take_append_drop _ _
theorem Sl.rd {σ : St} {v : GV} {l : List Int} (h : Sl (Ek.int .i64) σ v l) : Rd σ v l := by
  rcases h with h | ⟨g, off, cs, h1, h2, h3, h4⟩
  · exact .inl h
  · have h3' : off + l.length ≤ cs.length := by have : (Ek.int .i64).z = 1 := rfl; rw [this] at h3; omega
    refine .inr ⟨g, off, cs, h1, fxb_rdB h2, h3', fun i x hx => ?_⟩
    have h5 : (cs.drop (off + i * 1)).take 1 = [gi x] := h4 i x hx
    rw [Nat.mul_one] at h5
    have h6 := congrArg (·[0]?) h5
    simpa [List.getElem?_take, List.getElem?_drop] using h6
theorem Sl.rd2 {σ : St} {v : GV} {ll : List (List Int)} (h : Sl (Ek.slice (Ek.int .i64)) σ v ll) : Rd2 σ v ll := by
  rcases h with h | ⟨g, off, cs, h1, h2, h3, h4⟩
  · exact .inl h
  · have h3' : off + ll.length ≤ cs.length := by have : (Ek.slice (Ek.int .i64)).z = 1 := rfl; rw [this] at h3; omega
    refine .inr ⟨g, off, cs, h1, fxb_rdB h2, h3', fun i x hx => ?_⟩
    obtain ⟨c, h5, h6⟩ : ∃ c, (cs.drop (off + i * 1)).take 1 = [c] ∧ Sl (Ek.int .i64) σ c x := h4 i x hx
    rw [Nat.mul_one] at h5
    have h7 := congrArg (·[0]?) h5
    exact ⟨c, by simpa [List.getElem?_take, List.getElem?_drop] using h7, h6.rd⟩
end Go.Proofs.Ytopannfdcikgiaa.Sy
