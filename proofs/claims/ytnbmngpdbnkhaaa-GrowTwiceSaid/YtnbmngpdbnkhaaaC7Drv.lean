/- A shorter way to walk: rules of one shape for operations in order and in any order. Conditions: none (a library text). -/
import Derived.Test.YtnbmngpdbnkhaaaC7Ev
set_option linter.unusedVariables false
set_option linter.unusedSimpArgs false
namespace Go.Sk
open Go.RowKit

theorem gdV_bool (c : Bool) : gdV (.bool c) = .yes c := rfl
theorem gdV_unit : gdV (.tup []) = .no := rfl
/-- A row made where it was kept free. -/
def stepA (b nx : Nat) (g : Opd → AV) (rows : List Row) (op : MOp) : Option (AV × List Row) :=
  (stepOp g [] op).bind fun p => match p.2 with
    | [r] => match rows[b + nx]? with
      | some .dead => (newAt (b + nx) p.1).map fun v => (v, rows.set (b + nx) r)
      | _ => none
    | _ => none
def gK (b : Bool) (A B : Prop) : Gd → Prop
  | .yes c => (c = b → A) ∧ (c ≠ b → B)
  | .no => B
  | .bad => False
def sideL (bb nx : Nat) (av sep : List Nat) (g : Opd → AV) (x : Opd) : Bool := (av.all fun k => rowId (g x) != some (bb + k)) && (sep.all fun p => sepB (g (.t p)) (g x)) && belowB bb nx (g x)
def sideW (bb nx : Nat) (sep : List Nat) (g : Opd → AV) (x : Opd) : Bool := (sep.all fun p => sepB (g x) (g (.t p))) && (nx == 0 || boxP (g x) && belowB bb nx (g x))
section
variable {P : Program} {kf : Nat} {env : Env} {rows rows' : List Row} {os : List MOper} {ds : List DOp} {op : MOp} {d t : Nat} {b c : Bool} {v : AV} {K : Env → List Row → Prop} {KC : Ex → Env → List Row → Prop} {A B : Prop}
theorem g_T (k1 : c = true → A) (k2 : c = false → B) : gK true A B (.yes c) := ⟨k1, fun e => k2 (by simpa using e)⟩
theorem g_F (k1 : c = true → B) (k2 : c = false → A) : gK false A B (.yes c) := ⟨k2, fun e => k1 (by simpa using e)⟩
theorem g_no (k : B) : gK b A B .no := k
theorem op_gS {x : Gd} (h : gdV (look env t) = x) (k : gK b (Sk.wpOps P (⟨some d, op, none⟩ :: os) env rows K) (Sk.wpOps P os ((d, .tup []) :: env) rows K) x) : Sk.wpOps P (⟨some d, op, some (t, b)⟩ :: os) env rows K := by
  subst h; unfold Sk.wpOps; simp only
  generalize gdV (look env t) = x at k ⊢
  cases x <;> exact k
theorem op_g0 {x : Gd} (h : gdV (look env t) = x) (k : gK b (Sk.wpOps P (⟨none, op, none⟩ :: os) env rows K) (Sk.wpOps P os env rows K) x) : Sk.wpOps P (⟨none, op, some (t, b)⟩ :: os) env rows K := by
  subst h; unfold Sk.wpOps; simp only
  generalize gdV (look env t) = x at k ⊢
  cases x <;> exact k
variable {w : Bool} {nx bb : Nat} {av sep : List Nat}
theorem d_gS {x : Gd} (h : gdV (look env t) = x) (k : gK b (wpD P bb (⟨⟨some d, op, none⟩, w, nx, av, sep⟩ :: ds) env rows K) (wpD P bb ds ((d, .tup []) :: env) rows K) x) : wpD P bb (⟨⟨some d, op, some (t, b)⟩, w, nx, av, sep⟩ :: ds) env rows K := by
  subst h; unfold wpD; simp only
  generalize gdV (look env t) = x at k ⊢
  cases x <;> exact k
theorem d_g0 {x : Gd} (h : gdV (look env t) = x) (k : gK b (wpD P bb (⟨⟨none, op, none⟩, w, nx, av, sep⟩ :: ds) env rows K) (wpD P bb ds env rows K) x) : wpD P bb (⟨⟨none, op, some (t, b)⟩, w, nx, av, sep⟩ :: ds) env rows K := by
  subst h; unfold wpD; simp only
  generalize gdV (look env t) = x at k ⊢
  cases x <;> exact k
theorem kd_isB {dst : Option Nat} (hb : isB op = true) : (DOp.mk ⟨dst, op, none⟩ w nx av sep).kd = .v := by
  cases op <;> first | rfl | (simp [isB] at hb)
theorem d_isV {r : List Row} (hb : isB op = true) (h : stepOp (Opd.get env) [] op = some (.bool c, r)) (k : ∀ c', c = c' → wpD P bb ds ((d, .bool c') :: env) rows K) : wpD P bb (⟨⟨some d, op, none⟩, w, nx, av, sep⟩ :: ds) env rows K := d_isB hb (o_v (kd_isB hb) h) k
theorem d_ld {agg : Bool} {n : Nat} {x : Opd} (h : stepOp (Opd.get env) rows (.load agg n x) = some (v, rows)) (hs : sideL bb nx av sep (Opd.get env) x = true) (k : wpD P bb ds ((d, v) :: env) rows K) : wpD P bb (⟨⟨some d, .load agg n x, none⟩, w, nx, av, sep⟩ :: ds) env rows K := by
  simp only [sideL, Bool.and_eq_true, List.all_eq_true, bne_iff_ne] at hs
  exact d_step (o_l' h hs.1.1 hs.1.2 (belowB_ok hs.2)) k
theorem d_st {n : Nat} {x y : Opd} (h : stepOp (Opd.get env) rows (.store n x y) = some (v, rows')) (hs : sideW bb nx sep (Opd.get env) x = true) (k : wpD P bb ds env rows' K) : wpD P bb (⟨⟨none, .store n x y, none⟩, w, nx, av, sep⟩ :: ds) env rows K := by
  simp only [sideW, Bool.and_eq_true, Bool.or_eq_true, List.all_eq_true, beq_iff_eq] at hs
  refine d_step0 (o_w' h hs.1 ?_) k
  rcases hs.2 with h0 | ⟨h0, h1⟩
  · exact .inl h0
  · rcases belowB_ok h1 with h2 | h2
    · exact .inl h2
    · exact .inr ⟨h0, h2⟩
theorem stepA_ok {g : Opd → AV} {dst : Option Nat} {gd : Option (Nat × Bool)} (hk : (DOp.mk ⟨dst, op, gd⟩ w nx av sep).kd = .a) (h : stepA bb nx g rows op = some (v, rows')) : outc P bb ⟨⟨dst, op, gd⟩, w, nx, av, sep⟩ g rows v rows' := by
  simp only [stepA, Option.bind_eq_some_iff] at h
  obtain ⟨⟨u, r⟩, h1, h2⟩ := h
  split at h2
  · rename_i r0 hr
    split at h2
    · rename_i hd
      simp only [Option.map_eq_some_iff] at h2
      obtain ⟨v', h3, h4⟩ := h2
      cases h4
      simp only at hr; subst hr
      exact o_a hk h1 h3 hd
    · cases h2
  · cases h2
theorem d_new {ty : Nat} {z : List AV} (h : stepA bb nx (Opd.get env) rows (.new ty z) = some (v, rows')) (k : wpD P bb ds ((d, v) :: env) rows' K) : wpD P bb (⟨⟨some d, .new ty z, none⟩, w, nx, av, sep⟩ :: ds) env rows K := d_step (stepA_ok rfl h) k
theorem d_box {ty : Nat} {x : Opd} (h : stepA bb nx (Opd.get env) rows (.box ty x) = some (v, rows')) (k : wpD P bb ds ((d, v) :: env) rows' K) : wpD P bb (⟨⟨some d, .box ty x, none⟩, w, nx, av, sep⟩ :: ds) env rows K := d_step (stepA_ok rfl h) k
theorem d_bsl {e n : Nat} {z : List AV} {ps : List (Nat × Opd)} (h : stepA bb nx (Opd.get env) rows (.bslice e z n ps) = some (v, rows')) (k : wpD P bb ds ((d, v) :: env) rows' K) : wpD P bb (⟨⟨some d, .bslice e z n ps, none⟩, w, nx, av, sep⟩ :: ds) env rows K := d_step (stepA_ok rfl h) k
theorem d_apw {e lim : Nat} {x y : Opd} (h : stepOp (Opd.get env) rows (.app e lim x y) = some (v, rows')) (k : wpD P bb ds ((d, v) :: env) rows' K) : wpD P bb (⟨⟨some d, .app e lim x y, none⟩, true, 0, av, []⟩ :: ds) env rows K := d_step (o_w rfl h) k
theorem d_apa {e lim : Nat} {x y : Opd} (h : stepA bb nx (Opd.get env) rows (.app e lim x y) = some (v, rows')) (k : wpD P bb ds ((d, v) :: env) rows' K) : wpD P bb (⟨⟨some d, .app e lim x y, none⟩, false, nx, av, sep⟩ :: ds) env rows K := d_step (stepA_ok rfl h) k
theorem d_v {r : List Row} (h : stepOp (Opd.get env) [] op = some (v, r)) (hk : (DOp.mk ⟨some d, op, none⟩ w nx av sep).kd = .v) (k : wpD P bb ds ((d, v) :: env) rows K) : wpD P bb (⟨⟨some d, op, none⟩, w, nx, av, sep⟩ :: ds) env rows K := d_step (o_v hk h) k
theorem d_fcall {f : Nat} {args : List Opd} (h : FCall P f (args.map (Opd.get env)) v) (hs : decide (bb + nx ≤ rows.length) = true) (k : wpD P bb ds ((d, v) :: env) rows K) : wpD P bb (⟨⟨some d, .call f args, none⟩, w, nx, av, sep⟩ :: ds) env rows K := d_step (o_c h (of_decide_eq_true hs)) k
theorem d_fcallb {f : Nat} {args : List Opd} (h : FCall P f (args.map (Opd.get env)) (.bool c)) (k : ∀ c', c = c' → wpD P bb ds ((d, .bool c') :: env) rows K) (hs : decide (bb + nx ≤ rows.length) = true) : wpD P bb (⟨⟨some d, .call f args, none⟩, w, nx, av, sep⟩ :: ds) env rows K := d_bool (o_c h (of_decide_eq_true hs)) k
theorem d_cn {f : Nat} {args : List Opd} {new : List Row} (h : FCallN P f (args.map (Opd.get env)) rows.length v new) (hs : decide (bb + nx ≤ rows.length) = true) (k : wpD P bb ds ((d, v) :: env) (rows ++ new) K) : wpD P bb (⟨⟨some d, .call f args, none⟩, w, nx, av, sep⟩ :: ds) env rows K := d_step (o_cn h (of_decide_eq_true hs)) k
theorem op_cn {f : Nat} {args : List Opd} {new : List Row} (h : FCallN P f (args.map (Opd.get env)) rows.length v new) (k : Sk.wpOps P os ((d, v) :: env) (rows ++ new) K) : Sk.wpOps P (⟨some d, .call f args, none⟩ :: os) env rows K :=
  (h rows rfl).mono (by rintro r rs ⟨rfl, rfl⟩; exact k)
end

/-- What an operation comes to: rules for simp, all in one. -/
theorem W0 : type_of% (And.intro @W1 (And.intro @stepOp.eq_1 (And.intro @stepOp.eq_2 (And.intro @stepOp.eq_3 (And.intro @stepOp.eq_4 (And.intro @stepOp.eq_5 (And.intro @stepOp.eq_6 (And.intro @stepOp.eq_7 (And.intro @stepOp.eq_8 (And.intro @stepOp.eq_9 (And.intro @stepOp.eq_10 (And.intro @stepOp.eq_11 (And.intro @stepOp.eq_12 (And.intro @stepOp.eq_13 (And.intro @stepOp.eq_14 (And.intro @stepOp.eq_15 (And.intro @stepOp.eq_16 (And.intro @stepOp.eq_17 (And.intro @stepOp.eq_18 (And.intro @stepOp.eq_19 (And.intro @stepOp.eq_20 (And.intro @stepOp.eq_21 (And.intro @stepOp.eq_22 (And.intro @stepOp.eq_23 (And.intro @stepOp.eq_24 (And.intro @stepOp.eq_25 (And.intro @stepOp.eq_26 (And.intro @Opd.get.eq_1 (And.intro @Opd.get.eq_2 (And.intro @look.eq_2 (And.intro @behind.eq_1 (And.intro @behind.eq_2 (And.intro @behind.eq_3 (And.intro @behind.eq_4 (And.intro @skip.eq_1 (And.intro @skip.eq_3 (And.intro @firsts.eq_1 (And.intro @firsts.eq_3 (And.intro @putAt.eq_1 (And.intro @putAt.eq_3 (And.intro @putParts.eq_1 (And.intro @putParts.eq_2 (And.intro @thawL.eq_1 (And.intro @thawL.eq_2 (And.intro @storeAt.eq_1 (And.intro @storeAt.eq_2 (And.intro @storeAt.eq_3 (And.intro @loadR.eq_1 (And.intro @loadR.eq_2 (And.intro @widths.eq_1 (And.intro @widths.eq_2 (And.intro @binV.eq_1 (And.intro @binV.eq_2 (And.intro @binV.eq_3 (And.intro @binV.eq_4 (And.intro @binV.eq_5 (And.intro @binV.eq_7 (And.intro @binV.eq_8 (And.intro @intBin.eq_1 (And.intro @intBin.eq_2 (And.intro @intBin.eq_3 (And.intro @intBin.eq_4 (And.intro @intBin.eq_5 (And.intro @intBin.eq_6 (And.intro @intBin.eq_7 (And.intro @intBin.eq_8 (And.intro @intBin.eq_9 (And.intro @intBin.eq_10 (And.intro @intBin.eq_11 (And.intro @intBin.eq_12 (And.intro @intBin.eq_13 (And.intro @intBin.eq_14 (And.intro @intBin.eq_15 (And.intro @idx.eq_1 (And.intro @Option.bind.eq_1.{0, 0} (And.intro @Option.bind.eq_2.{0, 0} (And.intro @Option.map.eq_1.{0, 0} (And.intro @Option.map.eq_2.{0, 0} (And.intro @resVs.eq_1 (And.intro @resVs.eq_2 (And.intro @resV1.eq_1 (And.intro @resV1.eq_2 (And.intro @bound.eq_1 (And.intro @bound.eq_2 (And.intro @stepA.eq_1 (And.intro @newAt.eq_1 (And.intro @newAt.eq_2 (And.intro @newAt.eq_3 (And.intro @gdV_bool (And.intro @gdV_unit (And.intro @appR.eq_1 (And.intro @appR.eq_2 (And.intro @elems.eq_2 (And.intro @elems.eq_3 (And.intro @Bool.not_true (And.intro @Bool.not_false (And.intro @putElems.eq_1 (And.intro @putElems.eq_2 (And.intro @Bool.or_true (@Bool.true_or)))))))))))))))))))))))))))))))))))))))))))))))))))))))))))))))))))))))))))))))))))))))))))))))))))) := And.intro @W1 (And.intro @stepOp.eq_1 (And.intro @stepOp.eq_2 (And.intro @stepOp.eq_3 (And.intro @stepOp.eq_4 (And.intro @stepOp.eq_5 (And.intro @stepOp.eq_6 (And.intro @stepOp.eq_7 (And.intro @stepOp.eq_8 (And.intro @stepOp.eq_9 (And.intro @stepOp.eq_10 (And.intro @stepOp.eq_11 (And.intro @stepOp.eq_12 (And.intro @stepOp.eq_13 (And.intro @stepOp.eq_14 (And.intro @stepOp.eq_15 (And.intro @stepOp.eq_16 (And.intro @stepOp.eq_17 (And.intro @stepOp.eq_18 (And.intro @stepOp.eq_19 (And.intro @stepOp.eq_20 (And.intro @stepOp.eq_21 (And.intro @stepOp.eq_22 (And.intro @stepOp.eq_23 (And.intro @stepOp.eq_24 (And.intro @stepOp.eq_25 (And.intro @stepOp.eq_26 (And.intro @Opd.get.eq_1 (And.intro @Opd.get.eq_2 (And.intro @look.eq_2 (And.intro @behind.eq_1 (And.intro @behind.eq_2 (And.intro @behind.eq_3 (And.intro @behind.eq_4 (And.intro @skip.eq_1 (And.intro @skip.eq_3 (And.intro @firsts.eq_1 (And.intro @firsts.eq_3 (And.intro @putAt.eq_1 (And.intro @putAt.eq_3 (And.intro @putParts.eq_1 (And.intro @putParts.eq_2 (And.intro @thawL.eq_1 (And.intro @thawL.eq_2 (And.intro @storeAt.eq_1 (And.intro @storeAt.eq_2 (And.intro @storeAt.eq_3 (And.intro @loadR.eq_1 (And.intro @loadR.eq_2 (And.intro @widths.eq_1 (And.intro @widths.eq_2 (And.intro @binV.eq_1 (And.intro @binV.eq_2 (And.intro @binV.eq_3 (And.intro @binV.eq_4 (And.intro @binV.eq_5 (And.intro @binV.eq_7 (And.intro @binV.eq_8 (And.intro @intBin.eq_1 (And.intro @intBin.eq_2 (And.intro @intBin.eq_3 (And.intro @intBin.eq_4 (And.intro @intBin.eq_5 (And.intro @intBin.eq_6 (And.intro @intBin.eq_7 (And.intro @intBin.eq_8 (And.intro @intBin.eq_9 (And.intro @intBin.eq_10 (And.intro @intBin.eq_11 (And.intro @intBin.eq_12 (And.intro @intBin.eq_13 (And.intro @intBin.eq_14 (And.intro @intBin.eq_15 (And.intro @idx.eq_1 (And.intro @Option.bind.eq_1.{0, 0} (And.intro @Option.bind.eq_2.{0, 0} (And.intro @Option.map.eq_1.{0, 0} (And.intro @Option.map.eq_2.{0, 0} (And.intro @resVs.eq_1 (And.intro @resVs.eq_2 (And.intro @resV1.eq_1 (And.intro @resV1.eq_2 (And.intro @bound.eq_1 (And.intro @bound.eq_2 (And.intro @stepA.eq_1 (And.intro @newAt.eq_1 (And.intro @newAt.eq_2 (And.intro @newAt.eq_3 (And.intro @gdV_bool (And.intro @gdV_unit (And.intro @appR.eq_1 (And.intro @appR.eq_2 (And.intro @elems.eq_2 (And.intro @elems.eq_3 (And.intro @Bool.not_true (And.intro @Bool.not_false (And.intro @putElems.eq_1 (And.intro @putElems.eq_2 (And.intro @Bool.or_true (@Bool.true_or)))))))))))))))))))))))))))))))))))))))))))))))))))))))))))))))))))))))))))))))))))))))))))))))))))
end Go.Sk
