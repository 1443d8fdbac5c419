/- Determinizing: a state's value is frozen; the outer loop (in 25). -/
import Derived.Test.YtpgdlniekkeikaaDoorMinG
import Derived.Test.YtpgdlniekkeikaaDoorMinF
namespace Go.Ab.Tab
open Go Go.Ab
set_option maxRecDepth 10000
set_option linter.unusedVariables false
set_option linter.unusedSimpArgs false
def mkDet (p : Bool × List Nat) : Va := .mk 0 [mkOut p.1,.mk 0 (p.2.map mkSt) []] []
theorem encV_det (p : Bool × List Nat) : encV (mkDet p) = .agg [.int .i64 0,.sl 3 [.agg [.int .i64 (if p.1 then 1 else 0),.sl 3 [] .no,.sl 1 [] .no],.agg [.int .i64 0,.sl 3 (p.2.map fun x => encV (mkSt x)) .no,.sl 1 [] .no]] .no,.sl 1 [] .no] := by
 unfold mkDet mkOut
 rw [encV_mk]
 simp [encV_mk,Function.comp_def]
@[simp] theorem encDet_one (p) : (encV (mkDet p)).one = false := by rw [encV_det]; rfl
@[simp] theorem encDet_cells (p) : (encV (mkDet p)).cells = [.int .i64 0,.sl 3 [.agg [.int .i64 (if p.1 then 1 else 0),.sl 3 [] .no,.sl 1 [] .no],.agg [.int .i64 0,.sl 3 (p.2.map fun x => encV (mkSt x)) .no,.sl 1 [] .no]] .no,.sl 1 [] .no] := by rw [encV_det]; rfl
@[simp] theorem encDet_strip (p) : (encV (mkDet p)).strip = encV (mkDet p) := by rw [encV_det]; rfl
theorem mapM_still (s : St) (n : Nat) : ∀ {cs : List AV},(∀ c ∈ cs,c.still1 = true) → cs.mapM (frz s (n + 1)) = some (cs.map fun c => (c,[]))
 | [],_ => rfl
 | c :: cs,h => by
  rw [List.mapM_cons,frz_still1 s n (h c (by simp)),mapM_still s n (fun d hd => h d (by simp [hd]))]
  rfl
theorem groups_D : ∀ (r : List Nat),groups 3 true r.length (cellsD r) = r.map fun (x : Nat) => .agg [.int .i64 (x : Int),.sl 3 [] .no,.sl 1 [] .no]
 | [] => rfl
 | a :: r => by
  have e : cellsD (a :: r) = [.int .i64 (a : Int),.sl 3 [] .no,.sl 1 [] .no] ++ cellsD r := by simp [cellsD]
  rw [e,List.length_cons,groups,List.map_cons]
  have e1 : (([.int .i64 (a : Int),.sl 3 [] .no,.sl 1 [] .no] : List AV) ++ cellsD r).take 3 = [.int .i64 (a : Int),.sl 3 [] .no,.sl 1 [] .no] := by simp
  have e2 : (([.int .i64 (a : Int),.sl 3 [] .no,.sl 1 [] .no] : List AV) ++ cellsD r).drop 3 = cellsD r := by simp
  rw [e1,e2,groups_D r]; rfl
def killsD (D : Nat) : List Nat → List (Nat × Nat)
 | [] => [(D,76)]
 | _ :: _ => [(D,76),(D,114)]
theorem still1_of_strip1 {c d : AV} (h : c.strip1 = d) (hd : d.still1 = true) : c.still1 = true := by
 cases c <;> first | rfl | (subst h; exact hd)
theorem frz_D {D : Nat} {τ : Nat → AV} {ω : Nat → Ent} {S : Nat → Nat → Ent} {g18 g76 : Nat} {b : Bool} {r : List Nat} (hV : V25 D g18 g76 (if b then 1 else 0) τ ω r) (τ' : Nat → AV) :
  frz (stF 160 D τ' ω S) frzD (.agg [.int .i64 0,.own D 76 g76 0 2 3 true,.sl 1 [] .no]) = some (encV (mkDet (b,r)),killsD D r) := by
 obtain ⟨_,_,g,w76,w114⟩ := hV
 have h76 : ∀ n : Nat,frz (stF 160 D τ' ω S) (n + 3) (.own D 76 g76 0 2 3 true) = some (.sl 3 [.agg [.int .i64 (if b then 1 else 0),.sl 3 [] .no,.sl 1 [] .no],.agg [.int .i64 0,.sl 3 (r.map fun x => encV (mkSt x)) .no,.sl 1 [] .no]] .no,killsD D r) := by
  intro n
  have hA : frz (stF 160 D τ' ω S) (n + 2) (argsA D g r) = some (.sl 3 (r.map fun x => encV (mkSt x)) (match r with | [] => .nil | _ => .no),(killsD D r).drop 1) := by
   cases r with
   | nil => rfl
   | cons a r =>
    obtain ⟨cs,hcs,hcm⟩ := w114 (by simp)
    have hcl : cs.length = (r.length + 1) * 3 := by
     have := congrArg List.length hcm
     rw [List.length_map,cellsD_len,List.length_cons] at this
     exact this
    have hst : ∀ c ∈ cs,c.still1 = true := by
     intro c hc
     have : c.strip1 ∈ cellsD (a :: r) := by rw [← hcm]; exact List.mem_map.2 ⟨c,hc,rfl⟩
     unfold cellsD at this
     obtain ⟨x,_,hx⟩ := List.mem_flatMap.1 this
     refine still1_of_strip1 rfl ?_
     simp only [List.mem_cons,List.mem_nil_iff,or_false] at hx
     rcases hx with e | e | e <;> rw [e] <;> rfl
    have hone : cs.all AV.one = true := by
     rw [List.all_eq_true]
     intro c hc
     have := hst c hc
     cases c <;> first | rfl | cases this
    rw [argsA,frz]
    simp only [stF_look,if_true,show (114 < 160) = True by simp,hcs,stF_D]
    rw [if_pos ⟨trivial,trivial,by omega,.inl trivial,hone⟩]
    rw [List.drop_zero,List.take_of_length_le (by omega),mapM_still _ n hst]
    have e1 : (cs.map fun c => (c,([] : List (Nat × Nat)))).map (fun x => x.1.strip1) = cellsD (a :: r) := by rw [List.map_map]; exact hcm
    have e2 : ((cs.map fun c => (c,([] : List (Nat × Nat)))).map (·.2)).flatten = [] := by
     rw [List.map_map]
     simp
    simp only [e1,e2]
    have := groups_D (a :: r)
    rw [List.length_cons] at this
    rw [this]
    simp [killsD,encV_st]
  rw [frz]
  simp only [stF_look,if_true,show (76 < 160) = True by simp,w76,stF_D]
  have hone : ([.int .i64 (if b then 1 else 0),.sl 3 [] .nil,.sl 1 [] .nil,.int .i64 0,argsA D g r,.sl 1 [] .nil] : List AV).all AV.one = true := by cases r <;> rfl
  rw [if_pos ⟨trivial,trivial,by simp,.inl trivial,hone⟩]
  simp only [List.drop_zero,List.take,List.mapM_cons,List.mapM_nil,hA,frz_int,frz_sl,Option.pure_def,Option.bind_eq_bind,Option.bind_some]
  cases r <;> rfl
 rw [frzD,frz]
 simp only [List.mapM_cons,List.mapM_nil,frz_int,frz_sl,h76 16,Option.pure_def,Option.bind_eq_bind,Option.bind_some]
 rw [encV_det]
 simp
theorem RunW_loop {C : CallRel} {W : Way → St → Prop} {k : List AI} {s : St} {a : AC} (h : RunW C W (.lp a :: k) s) : RunW C W (.c (.loop a) :: k) s := by
 cases h with
 | lp h => exact .loop h
def stepK (A : PA) (x : BS) (L : List BS) : List BS × List Nat := stepD A x A.k 0 (L,[])
def detR (A : PA) : Nat → Nat → List BS → List (Bool × List Nat) → Option (Option (List BS × List (Bool × List Nat)))
 | 0,_,_,_ => none
 | f + 1,k,L,rs => match L[k]? with
  | none => some (some (L,rs))
  | some x => if k = 100 then some none else detR A f (k + 1) (stepK A x L).1 (rs ++ [(endsB A.F x,(stepK A x L).2)])
def gsD (k : Nat) : List Fu := [.mk 1 2 [],.mk 4 k [.mk 0 0 []]]
def e16 (A : PA) (rs : List (Bool × List Nat)) : Ent := (1,.cells [.int .i64 2,.int .i64 0,.sl 3 ((gsD A.k).map encF) .no,.sl 3 (rs.map fun p => encV (mkDet p)) .tip])
def zeroY : AV := .agg [.int .i64 0,.int .i64 0,.sl 3 [] .no,.sl 3 [] .no]
def sysD (k : Nat) (rs : List (Bool × List Nat)) : Sy := ⟨.mk 2 0 (gsD k),rs.map mkDet⟩
def namesL (L : List BS) : List (List Nat) := L.map BS.list
def encLN (L : List (List Nat)) : AV := .sl 1 (L.map fun l => .sl 1 (l.map encN) .no) .no
def rDet (k : Nat) : Option (List BS × List (Bool × List Nat)) → AV
 | none => .tup [zeroY,.sl 1 [] .no,.int .i64 2]
 | some (L,rs) => .tup [encY (sysD k rs),encLN (namesL L),.int .i64 0]
theorem stepD_len (A : PA) (x : BS) : ∀ (j l : Nat) (p : List BS × List Nat),(stepD A x j l p).1.length ≤ p.1.length + j ∧ p.1.length ≤ (stepD A x j l p).1.length
 | 0,l,p => by simp [stepD]
 | j + 1,l,p => by
  rw [stepD]
  have h := stepD_len A x j (l + 1) ((addB p.1 (nextA A x l)).2,p.2 ++ [(addB p.1 (nextA A x l)).1])
  have h2 : (addB p.1 (nextA A x l)).2.length ≤ p.1.length + 1 ∧ p.1.length ≤ (addB p.1 (nextA A x l)).2.length := by
   unfold addB
   split <;> simp
  simp only at h
  omega
theorem l25_2 (D : Nat) (A : PA) (hn : A.n ≤ 100) (hk4 : A.k ≤ 4) (hrows : A.rows.length = A.n) (hw : ∀ r ∈ A.rows,A.k ≤ r.length) (S) (r : AV) (res : Option (List BS × List (Bool × List Nat)))
  (hfin : res = none → r = rDet A.k none) (hgo : ∀ L rs,res = some (L,rs) → L.length ≤ 5000 → ∀ τ' ω',τ' 4 = .ptr D 4 1 0 → τ' 10 = .ptr D 10 1 0 → τ' 16 = .ptr D 16 1 0 → ω' 4 = (1,.cells [.int .i64 0,.int .i64 0,.sl 3 [] .tip,.sl 3 [] .tip]) → ω' 10 = lsB L → ω' 16 = e16 A rs →
   RunW (Loc Pg Gl) (fnQ (RetQ [.cell 4 true 4,.tmp 5,.tmp 6] r S)) [.c c25_k3] (stF 160 D τ' ω' S)) :
  ∀ (f k : Nat) (L : List BS) (rs : List (Bool × List Nat)) (τ ω),detR A f k L rs = some res → k ≤ 100 → L.length ≤ 1000 + 4 * k → rs.length ≤ k →
  F25 D A k τ ω L (e16 A rs) → RunW (Loc Pg Gl) (fnQ (RetQ [.cell 4 true 4,.tmp 5,.tmp 6] r S)) [.lp c25_l2,.blk 2,.c c25_k3] (stF 160 D τ ω S) := by
 intro f
 induction f with
 | zero => intro k L rs τ ω h; cases h
 | succ f ih =>
  intro k L rs τ ω hd hk hL hrs hF
  refine RunW_lpE c25_l2.eq_1 ?_
  obtain ⟨t4,t7,t10,t11,t16,t17,w4,w9,w10,w32,w16⟩ := hF
  rw [detR] at hd
  have w10' := w10
  unfold lsB at w10'
  refine .seq (.seq (RunW_pre (k1 := [_]) ?_))
  simp [t17,t10,w10']
  cases hx : L[k]? with
  | none =>
   rw [hx] at hd
   injection hd with hd
   have hkl : ¬ k < L.length := fun h => by rw [List.getElem?_eq_getElem h] at hx; cases hx
   refine ⟨rfl,.cond (t := false) (by simp [hkl]) (.exit (k' := [.c c25_k3]) (by simp) ?_)⟩
   refine hgo L rs hd.symm (by omega) _ _ ?_ ?_ ?_ w4 w10 w16
   all_goals simp [t4,t10,t16]
  | some x =>
   rw [hx] at hd
   simp only at hd
   have hkl : k < L.length := (List.getElem?_eq_some_iff.1 hx).1
   have hxe : L[k] = x := (List.getElem?_eq_some_iff.1 hx).2
   refine ⟨rfl,.cond (t := true) (by simp [hkl]) (.skip (.seq (.block (.seq (.seq (RunW_pre (k1 := [_]) ?_))))))⟩
   simp [t17]
   by_cases h100 : k = 100
   ·rw [if_pos h100] at hd
    injection hd with hd
    have hr := hfin hd.symm
    have hk1 : ((k : Int) = 100) := by omega
    refine ⟨rfl,.cond (t := true) (by simp [hk1]) (Rd.run (own := .im) ?_)⟩
    simp [t4,w4,hr,rDet,zeroY]
   ·rw [if_neg h100] at hd
    have hk1 : ¬ ((k : Int) = 100) := by omega
    refine ⟨rfl,.cond (t := false) (by simp [hk1]) (.skip (.seq (RunW_pre (k1 := [_]) ?_)))⟩
    simp
    have rest : ∀ (g18 g76 : Nat) (τ1 : Nat → AV) (ω1 : Nat → Ent),F25 D A k τ1 ω1 L (e16 A rs) → V25 D g18 g76 (if endsB A.F x then 1 else 0) τ1 ω1 [] →
      RunW (Loc Pg Gl) (fnQ (RetQ [.cell 4 true 4,.tmp 5,.tmp 6] r S)) [.c c25_j0,.blk 3,.c c25_k1,.lp c25_l2,.blk 2,.c c25_k3] (stF 160 D τ1 ω1 S) := by
     intro g18 g76 τ1 ω1 hF1 hV1
     unfold c25_j0
     have q7 := hF1.t7
     refine .seq (.seq (RunW_pre (k1 := [_]) ?_))
     simp [q7,encA]
     refine ⟨rfl,.block (RunW_loop ?_)⟩
     refine l25_1 D A hn hk4 hrows hw k x (e16 A rs) g18 g76 (if endsB A.F x then 1 else 0) _ _ S A.k 0 L [] _ _ (by omega) hx (by omega) (by simp; omega) ?_ ?_ ?_ ?_ ?_
     case refine_5 =>
      intro τ2 ω2 hF2 hV2
      have hstep : stepD A x A.k 0 (L,[]) = stepK A x L := rfl
      rw [hstep] at hF2 hV2
      have hlen := stepD_len A x A.k 0 (L,[])
      rw [hstep] at hlen
      simp only at hlen
      generalize stepK A x L = st at hd hF2 hV2 hlen
      obtain ⟨L2,r2⟩ := st
      simp only at hd hF2 hV2 hlen
      obtain ⟨u4,u7,u10,u11,u16,u17,v4,v9,v10,v32,v16⟩ := hF2
      obtain ⟨u18,v18,v76⟩ := hV2
      have hfz : ∀ τ' e,frz (stF 160 D τ' (upd ω2 16 e) S) frzD (.agg [.int .i64 0,.own D 76 g76 0 2 3 true,.sl 1 [] .no]) = some (encV (mkDet (endsB A.F x,r2)),killsD D r2) := by
       intro τ' e
       refine frz_D (τ := τ2) (g18 := g18) ⟨u18,by simp [v18],?_⟩ τ'
       obtain ⟨g,q1,q2⟩ := v76
       exact ⟨g,by simp [q1],fun h => by obtain ⟨cs,q3,q4⟩ := q2 h; exact ⟨cs,by simp [q3],q4⟩⟩
      have fin : ∀ (τ3 : Nat → AV) (ω3 : Nat → Ent),τ3 4 = .ptr D 4 1 0 → τ3 7 = encA A → τ3 10 = .ptr D 10 1 0 → τ3 11 = .fn 67 [.ptr D 9 1 0,.ptr D 10 1 0] → τ3 16 = .ptr D 16 1 0 → τ3 17 = .int .i64 k →
        (∀ i,i ≠ 16 → i ≠ 76 → i ≠ 114 → ω3 i = ω2 i) → ω3 16 = e16 A (rs ++ [(endsB A.F x,r2)]) → RunW (Loc Pg Gl) (fnQ (RetQ [.cell 4 true 4,.tmp 5,.tmp 6] r S)) [.blk 3,.c c25_k1,.lp c25_l2,.blk 2,.c c25_k3] (stF 160 D τ3 ω3 S) := by
       intro τ3 ω3 a4 a7 a10 a11 a16 a17 hω h16
       have hwk : IntKind.i64.wrap ((k : Int) + 1) = ((k + 1 : Nat) : Int) := by rw [← wrap_i64_nat (n := k + 1) (by omega)]; rfl
       refine .blk (RunW_pre (k1 := [_]) ?_)
       unfold c25_k1
       simp [a17,hwk]
       refine ⟨rfl,ih (k + 1) L2 _ _ _ hd (by omega) (by omega) (by simp; omega) ⟨by simp [a4],by simp [a7],by simp [a10],by simp [a11],by simp [a16],by simp,?_,?_,?_,?_,h16⟩⟩
       ·rw [hω 4 (by decide) (by decide) (by decide)]; exact v4
       ·rw [hω 9 (by decide) (by decide) (by decide)]; exact v9
       ·rw [hω 10 (by decide) (by decide) (by decide)]; exact v10
       ·rw [hω 32 (by decide) (by decide) (by decide)]; exact v32
      refine RunW_pre (k1 := [_]) ?_
      unfold c25_k0
      unfold e16 at v16
      have hle : (rs.length + 1) * 56 ≤ 1099511627776 := by omega
      cases r2 with
      | nil =>
       simp [u16,v16,u18,v18,hfz,hle,killsD,-frzD_agg]
       refine ⟨rfl,fin _ _ ?_ ?_ ?_ ?_ ?_ ?_ (fun i h1 h2 h3 => ?_) ?_⟩
       case refine_7 => simp [upd,h1,h2,h3]
       case refine_8 => simp [e16]
       all_goals simp [*]
      | cons a r2 =>
       simp [u16,v16,u18,v18,hfz,hle,killsD,-frzD_agg]
       refine ⟨rfl,fin _ _ ?_ ?_ ?_ ?_ ?_ ?_ (fun i h1 h2 h3 => ?_) ?_⟩
       case refine_7 => simp [upd,h1,h2,h3]
       case refine_8 => simp [e16]
       all_goals simp [*]
     ·obtain ⟨u4,u7,u10,u11,u16,u17,v4,v9,v10,v32,v16⟩ := hF1
      constructor <;> simp [*,encA]
     ·obtain ⟨u18,v18,v76⟩ := hV1
      obtain ⟨g,q1,q2⟩ := v76
      exact ⟨by simp [u18],by simp [v18],g,by simp [q1],fun h => absurd rfl h⟩
     all_goals simp
    refine ⟨rfl,.seq (.seq (RunW_pre (k1 := [_]) ?_))⟩
    have s69 := spec69 (D + 1) A x
    simp [t7,t10,t17,w10',hkl,hxe,encS]
    refine Rd_call s69 (by simp [encS]) ?_
    simp
    refine ⟨rfl,.cond (t := endsB A.F x) (by simp) ?_⟩
    cases hb : endsB A.F x with
    | false =>
     rw [hb] at rest
     refine .skip (rest ((ω 18).1 + 1) ((ω 76).1 + 1) _ _ ?_ ?_)
     ·constructor <;> simp [*]
     ·refine ⟨by simp,by simp,0,by simp [argsA],by simp⟩
    | true =>
     rw [hb] at rest
     refine RunW_pre (k1 := [_]) ?_
     simp
     refine ⟨rfl,rest ((ω 18).1 + 1) ((ω 76).1 + 1) _ _ ?_ ?_⟩
     ·constructor <;> simp [*]
     ·refine ⟨by simp,by simp,0,by simp [argsA],by simp⟩
end Go.Ab.Tab
/- Determinizing: the program's Deterministic (25). -/
namespace Go.Ab.Tab
open Go Go.Ab
set_option maxRecDepth 10000
set_option linter.unusedVariables false
set_option linter.unusedSimpArgs false
theorem l25_3 (D : Nat) (A : PA) (rs : List (Bool × List Nat)) (L : List BS) (hL : L.length ≤ 5000) (S) (r : AV) (hr : r = rDet A.k (some (L,rs))) : ∀ (m i : Nat) (τ ω),i + m = L.length →
  τ 4 = .ptr D 4 1 0 → τ 16 = .ptr D 16 1 0 → τ 20 = .sl 1 ((L.take i).map fun x => .sl 1 (x.list.map encN) .no) .tip → τ 146 = .sl 2 (L.map encS) .no → τ 147 = .int .i64 L.length → τ 148 = .int .i64 i →
  ω 4 = (1,.cells [.int .i64 0,.int .i64 0,.sl 3 [] .tip,.sl 3 [] .tip]) → ω 16 = e16 A rs →
  Rd (Loc Pg Gl) .im (RetQ [.cell 4 true 4,.tmp 5,.tmp 6] r S) [.lp c25_l3,.blk 6,.c c25_k2] (stF 160 D τ ω S) := by
 intro m
 induction m with
 | zero =>
  intro i τ ω hi h4 h16 h20 h146 h147 h148 w4 w16
  refine Rd_lpE c25_l3.eq_1 ?_
  obtain rfl : i = L.length := by omega
  unfold e16 at w16
  rw [List.take_length] at h20
  simp [h4,h16,h20,h147,h148,w4,w16,c25_k2]
  rw [hr,rDet,encY,sysD]
  simp [encLN,namesL,Fu.k,Fu.n,Fu.gs,Function.comp_def]
 | succ m ih =>
  intro i τ ω hi h4 h16 h20 h146 h147 h148 w4 w16
  refine Rd_lpE c25_l3.eq_1 ?_
  have hlt : i < L.length := by omega
  have hwr : IntKind.i64.wrap ((i : Int) + 1) = ((i + 1 : Nat) : Int) := by rw [← wrap_i64_nat (n := i + 1) (by omega)]; rfl
  obtain ⟨x,hx⟩ : ∃ x,L[i] = x := ⟨_,rfl⟩
  have hle : ((L.take i).length + 1) * 24 ≤ 1099511627776 := by rw [List.length_take]; omega
  have htk : L.take (i + 1) = L.take i ++ [x] := by rw [List.take_succ_eq_append_getElem hlt,hx]
  have hmin : (min i L.length + 1) * 24 ≤ 1099511627776 := by omega
  simp [h20,h146,h147,h148,hlt,hx,encS]
  refine Rd_call (spec61 _ x) (by simp [encS]) ?_
  simp [h20,h148,hwr,hmin]
  refine ih (i + 1) _ _ (by omega) ?_ ?_ ?_ ?_ ?_ ?_ ?_ ?_
  all_goals simp [h4,h16,h146,h147,w4,w16,htk,hwr]
def addAll (n : Int) : List (List Int) → List BS → Option (List BS)
 | [],L => some L
 | l :: ls,L => if isSet n l then addAll n ls (addB L (toS l)).2 else none
theorem addAll_len (n : Int) : ∀ (ls : List (List Int)) (L L' : List BS),addAll n ls L = some L' → L'.length ≤ L.length + ls.length
 | [],L,L',h => by injection h with h; subst h; simp
 | l :: ls,L,L',h => by
  rw [addAll] at h
  split at h
  ·have h1 := addAll_len n ls _ L' h
   have h2 : (addB L (toS l)).2.length ≤ L.length + 1 := by unfold addB; split <;> simp
   rw [List.length_cons]; omega
  ·cases h
def errDet (c : Int) : AV := .tup [zeroY,.sl 1 [] .no,.int .i64 c]
theorem l25_0 (D : Nat) (A : PA) (hn : A.n ≤ 100) (sets : List (List Int)) (hs : sets.length ≤ 1000) (hsl : ∀ l ∈ sets,l.length ≤ maxLen) (S) (r : AV) : ∀ (m i : Nat) (L : List BS) (τ ω),i + m = sets.length → L.length ≤ i →
  τ 4 = .ptr D 4 1 0 → τ 7 = encA A → τ 10 = .ptr D 10 1 0 → τ 11 = .fn 67 [.ptr D 9 1 0,.ptr D 10 1 0] → τ 34 = encLs sets → τ 35 = .int .i64 sets.length → τ 36 = .int .i64 i →
  ω 4 = (1,.cells [.int .i64 0,.int .i64 0,.sl 3 [] .tip,.sl 3 [] .tip]) → ω 9 = (1,.cells [.mp D 32 1]) → ω 10 = lsB L → ω 32 = mpB L → ω 16 = (0,.dead) →
  (addAll A.n (sets.drop i) L = none → r = errDet 1) →
  (∀ L',addAll A.n (sets.drop i) L = some L' → ∀ τ' ω',τ' 4 = .ptr D 4 1 0 → τ' 7 = encA A → τ' 10 = .ptr D 10 1 0 → τ' 11 = .fn 67 [.ptr D 9 1 0,.ptr D 10 1 0] →
   ω' 4 = (1,.cells [.int .i64 0,.int .i64 0,.sl 3 [] .tip,.sl 3 [] .tip]) → ω' 9 = (1,.cells [.mp D 32 1]) → ω' 10 = lsB L' → ω' 32 = mpB L' → ω' 16 = (0,.dead) →
   RunW (Loc Pg Gl) (fnQ (RetQ [.cell 4 true 4,.tmp 5,.tmp 6] r S)) [.c c25_k4] (stF 160 D τ' ω' S)) →
  RunW (Loc Pg Gl) (fnQ (RetQ [.cell 4 true 4,.tmp 5,.tmp 6] r S)) [.lp c25_l0,.blk 0,.c c25_k4] (stF 160 D τ ω S) := by
 intro m
 induction m with
 | zero =>
  intro i L τ ω hi hLi h4 h7 h10 h11 h34 h35 h36 w4 w9 w10 w32 w16 hno hend
  refine RunW_lpE c25_l0.eq_1 ?_
  obtain rfl : i = sets.length := by omega
  refine .seq (RunW_pre (k1 := [_]) ?_)
  simp [h35,h36]
  refine ⟨rfl,.seq (.cond (t := false) (by simp) (.exit (k' := [.c c25_k4]) (by simp) ?_))⟩
  rw [List.drop_length,addAll] at hend
  refine hend L rfl _ _ ?_ ?_ ?_ ?_ w4 w9 w10 w32 w16
  all_goals simp [*]
 | succ m ih =>
  intro i L τ ω hi hLi h4 h7 h10 h11 h34 h35 h36 w4 w9 w10 w32 w16 hno hend
  refine RunW_lpE c25_l0.eq_1 ?_
  have hlt : i < sets.length := by omega
  have hwr : IntKind.i64.wrap ((i : Int) + 1) = ((i + 1 : Nat) : Int) := by rw [← wrap_i64_nat (n := i + 1) (by omega)]; rfl
  obtain ⟨x,hx⟩ : ∃ x,sets[i] = x := ⟨_,rfl⟩
  have hxl := hsl x (by rw [← hx]; exact List.getElem_mem hlt)
  have s68 := spec68 (D + 1) A.n (by omega) x hxl
  rw [List.drop_eq_getElem_cons hlt,hx,addAll] at hno hend
  refine .seq (RunW_pre (k1 := [_]) ?_)
  simp [h35,h36]
  refine ⟨rfl,.seq (.cond (t := true) (by simp; exact hlt) (.skip (.seq (.block (.seq (RunW_pre (k1 := [_]) ?_))))))⟩
  simp [h34,h36,encLs,hlt,hx,encI_left]
  refine ⟨rfl,.seq (RunW_pre (k1 := [_]) ?_)⟩
  simp [h7,encA,encI_left]
  refine Rd_call s68 (by simp) ?_
  cases hok : isSet A.n x with
  | false =>
   rw [hok] at hno
   simp only [Bool.false_eq_true,if_false] at hno
   have hr := hno trivial
   simp [rOf,encS]
   refine ⟨rfl,.seq (.seq (RunW_pre (k1 := [_]) ?_))⟩
   simp
   refine ⟨rfl,.cond (t := true) (by simp) (Rd.run (own := .im) ?_)⟩
   simp [h4,w4,hr,errDet,zeroY]
  | true =>
   rw [hok] at hno hend
   simp only [if_true] at hno hend
   simp [rOf,encS]
   refine ⟨rfl,.seq (.seq (RunW_pre (k1 := [_]) ?_))⟩
   simp
   refine ⟨rfl,.cond (t := false) (by simp) (.skip (RunW_pre (k1 := [_,_,_]) ?_))⟩
   have s67 := spec67 D L (by omega) (toS x)
   simp [h11]
   refine Rd_callvM (cap := [.ptr D 9 1 0,.ptr D 10 1 0]) s67 (by simp) (by simp [encS]) (by simp [mem67,w9,w10,w32,lsB]) (by simp [dl67,mem67,lsB,mpB]) ?_
   simp [dl67,encN,h36,hwr]
   have hll : (addB L (toS x)).2.length ≤ i + 1 := by unfold addB; split <;> simp <;> omega
   refine ⟨rfl,ih (i + 1) (addB L (toS x)).2 _ _ (by omega) hll ?_ ?_ ?_ ?_ ?_ ?_ ?_ ?_ ?_ ?_ ?_ ?_ hno hend⟩
   all_goals simp [h4,h7,h10,h11,h34,h35,w4,w9,w16,encA,hwr,encLs]
def detRes (A : PA) (sets : List (List Int)) (r : AV) : Prop :=
 match addAll A.n sets [] with
 | none => r = errDet 1
 | some L => ∃ res,detR A 102 0 L [] = some res ∧ r = rDet A.k res
theorem spec25_ok (D k : Nat) (ps : List (Bool × List (List Nat))) (hps : AuOk k ps) (hrl : ∀ p ∈ ps,∀ r ∈ p.2,r.length ≤ maxLen) (hY : isY (auY k ps) = true) (hv : ∀ v ∈ (auY k ps).m,fitV v) (hb : nodesVs (auY k ps).m ≤ 2 ^ 32)
  (hrows : (paOf k ps).rows.length = (paOf k ps).n) (hw : ∀ r ∈ (paOf k ps).rows,(paOf k ps).k ≤ r.length)
  (sets : List (List Int)) (hs : sets.length ≤ 1000) (hsl : ∀ l ∈ sets,l.length ≤ maxLen) (r : AV) (hr : detRes (paOf k ps) sets r) :
  Go.Ab.Loc Pg Gl D 25 [encY (auY k ps),encLs sets] [] r [] := by
 have hn := hps.len
 have hk4 := hps.kle
 have h66 := spec66_ok (D + 1) k ps hps hrl hY hv hb
 have hAn : (paOf k ps).n ≤ 100 := hn
 have hAk : (paOf k ps).k ≤ 4 := hk4
 generalize hA : paOf k ps = A at *
 rw [encY_au] at h66 ⊢
 obtain ⟨fn,code,t1,t2,t3,t4,t5,t6⟩ := tok 25 _ rfl
 refine loc_of_run (L := Lx) mixedP t1 t2 t3 t4 t5 fun S hS => ?_
 rw [t6,start_stF _ _ _ _ (by simp)]
 refine RunW.imp (Q := fnQ (RetQ [.cell 4 true 4,.tmp 5,.tmp 6] r S)) (fun w s' h => by
  have hq : RetQ [.cell 4 true 4,.tmp 5,.tmp 6] r S s' → resV s' [.cell 4 true 4,.tmp 5,.tmp 6] = some r ∧ ∀ d i,d ≠ D → s'.S d i = upds S [] d i := fun h => ⟨h.1,fun d i hd => by rw [h.2]; rfl⟩
  cases w with
  | fall => exact hq h
  | ret => exact hq h
  | exit => exact h
  | stop => exact h) ?_
 unfold c25
 refine .seq (RunW_pre (k1 := [_]) ?_)
 simp
 refine ⟨rfl,.seq (RunW_pre (k1 := [_]) ?_)⟩
 simp
 refine Rd_call h66 (by simp) ?_
 simp
 refine ⟨rfl,.seq (.seq (RunW_pre (k1 := [_]) ?_))⟩
 simp
 refine ⟨rfl,.cond (t := false) (by simp) (.skip (.seq (RunW_pre (k1 := [_]) ?_)))⟩
 simp
 refine ⟨rfl,.seq (RunW_pre (k1 := [_]) ?_)⟩
 simp
 refine ⟨rfl,.seq (RunW_pre (k1 := [_]) ?_)⟩
 simp
 refine ⟨rfl,.seq (.seq (RunW_pre (k1 := [_]) ?_))⟩
 simp [encLs]
 refine ⟨rfl,.block (RunW_loop ?_)⟩
 unfold detRes at hr
 refine l25_0 D A hAn sets hs hsl S r sets.length 0 [] _ _ (by omega) (by simp) ?_ ?_ ?_ ?_ ?_ ?_ ?_ ?_ ?_ ?_ ?_ ?_ ?_ ?_
 case refine_13 => intro h; rw [List.drop_zero] at h; rw [h] at hr; exact hr
 case refine_14 =>
  intro L' hL' τ1 ω1 a4 a7 a10 a11 v4 v9 v10 v32 v16
  rw [List.drop_zero] at hL'
  rw [hL'] at hr
  obtain ⟨res,hdr,hre⟩ := hr
  have hLl := addAll_len _ _ _ _ hL'
  simp only [List.length_nil,Nat.zero_add] at hLl
  unfold c25_k4
  refine .seq (RunW_pre (k1 := [_]) ?_)
  simp [a7,encA,v16]
  refine ⟨rfl,.seq (.seq (RunW_pre (k1 := [_]) ?_))⟩
  simp
  refine ⟨rfl,.block (RunW_loop ?_)⟩
  refine l25_2 D A hAn hAk hrows hw S r res (fun h => by rw [hre,h]) ?_ 102 0 L' [] _ _ hdr (by omega) (by omega) (by simp) ?_
  ·intro L rs hres hLL τ2 ω2 b4 b10 b16 u4 u10 u16
   subst hres
   unfold c25_k3
   unfold lsB at u10
   refine Rd.run (own := .im) ?_
   simp [b10,u10]
   refine l25_3 D A rs L hLL S r hre L.length 0 _ _ (by omega) ?_ ?_ ?_ ?_ ?_ ?_ u4 u16
   all_goals simp [b4,b16]
  ·refine ⟨by simp [a4],by simp [a7,encA],by simp [a10],by simp [a11],by simp,by simp,by simp [v4],by simp [v9],by simp [v10],by simp [v32],?_⟩
   simp [e16,gsD,encF_mk]
   done
 all_goals simp [encLs,lsB,mpB,entsM]
end Go.Ab.Tab
/- The program's given (88),Letters (46),Word (51),errors of Deterministic. -/
namespace Go.Ab.Tab
open Go Go.Ab
set_option maxRecDepth 10000
set_option linter.unusedVariables false
set_option linter.unusedSimpArgs false
theorem spec46_bad (D : Nat) (s : Sy) (hf : fitF s.f) (hl : s.m.length ≤ maxLen) (hv : ∀ v ∈ s.m,fitV v) (hb : nodesVs s.m ≤ 2 ^ 32) (h : isY s = false ∨ lettersF s.f = 0) :
  Go.Ab.Loc Pg Gl D 46 [encY s] [] (.tup [.int .i64 0,.int .i64 (if isY s then 1 else 30)]) [] := by
 refine loc_rd mixedP tok rfl rfl fun S => ?_
 unfold c46
 have h66 := spec66_bad (D + 1) s hf hl hv hb h
 have hne : (if isY s then (1 : Int) else 30) ≠ 0 := by split <;> decide
 generalize (if isY s then (1 : Int) else 30) = c at h66 hne ⊢
 rw [encY] at h66 ⊢
 simp
 refine Rd_call h66 (by simp) ?_
 simp [hne]
theorem spec46_ok (D k : Nat) (ps : List (Bool × List (List Nat))) (hps : AuOk k ps) (hrl : ∀ p ∈ ps,∀ r ∈ p.2,r.length ≤ maxLen) (hY : isY (auY k ps) = true) (hv : ∀ v ∈ (auY k ps).m,fitV v) (hb : nodesVs (auY k ps).m ≤ 2 ^ 32) :
  Go.Ab.Loc Pg Gl D 46 [encY (auY k ps)] [] (.tup [.int .i64 k,.int .i64 0]) [] := by
 refine loc_rd mixedP tok rfl rfl fun S => ?_
 unfold c46
 have h66 := spec66_ok (D + 1) k ps hps hrl hY hv hb
 have hk : (paOf k ps).k = k := rfl
 rw [encY_au] at h66 ⊢
 unfold encA at h66
 rw [hk] at h66
 simp
 refine Rd_call h66 (by simp) ?_
 simp
def zS : AV := encS (0#64,0#64)
theorem spec88_ok (D k : Nat) (ps : List (Bool × List (List Nat))) (hps : AuOk k ps) (hrl : ∀ p ∈ ps,∀ r ∈ p.2,r.length ≤ maxLen) (hY : isY (auY k ps) = true) (hv : ∀ v ∈ (auY k ps).m,fitV v) (hb : nodesVs (auY k ps).m ≤ 2 ^ 32) (l : List Int) (hl : l.length ≤ maxLen) :
  Go.Ab.Loc Pg Gl D 88 [encY (auY k ps),encI l] [] (if isSet ps.length l then .tup [encA (paOf k ps),encS (toS l),.int .i64 0] else .tup [.nilp,zS,.int .i64 1]) [] := by
 have hn := hps.len
 refine loc_rd mixedP tok rfl rfl fun S => ?_
 unfold c88
 have h66 := spec66_ok (D + 1) k ps hps hrl hY hv hb
 have h68 := spec68 (D + 1) ps.length (by omega) l hl
 have hA2 : encA (paOf k ps) = .box [.int .i64 ps.length,.int .i64 k,.int .u64 (paOf k ps).F.1.toNat,.int .u64 (paOf k ps).F.2.toNat,.sl 1 ((paOf k ps).rows.map fun r => .sl 2 (r.map encS) .no) .no] 0 := rfl
 generalize hr : (if isSet ps.length l then AV.tup [encA (paOf k ps),encS (toS l),.int .i64 0] else .tup [.nilp,zS,.int .i64 1]) = r
 rw [hA2] at hr h66
 rw [encY_au] at h66 ⊢
 simp
 refine Rd_call h66 (by simp) ?_
 simp [encI_left]
 refine Rd_call h68 (by simp) ?_
 cases hok : isSet ps.length l with
 | false =>
  rw [hok,if_neg (by simp)] at hr
  simp [rOf,encS]
  simp [← hr,zS,encS]
 | true =>
  rw [hok,if_pos rfl] at hr
  simp [rOf,encS]
  simp [← hr,encS]
end Go.Ab.Tab
/- The program's Accepts (41),Next (47),Word (51). -/
namespace Go.Ab.Tab
open Go Go.Ab
set_option maxRecDepth 10000
set_option linter.unusedVariables false
set_option linter.unusedSimpArgs false
theorem spec41_ok (D k : Nat) (ps : List (Bool × List (List Nat))) (hps : AuOk k ps) (hrl : ∀ p ∈ ps,∀ r ∈ p.2,r.length ≤ maxLen) (hY : isY (auY k ps) = true) (hv : ∀ v ∈ (auY k ps).m,fitV v) (hb : nodesVs (auY k ps).m ≤ 2 ^ 32)
  (hrows : (paOf k ps).rows.length = (paOf k ps).n) (hw : ∀ r ∈ (paOf k ps).rows,(paOf k ps).k ≤ r.length) (l w : List Int) (hl : l.length ≤ maxLen) (hwl : w.length ≤ maxLen) :
  Go.Ab.Loc Pg Gl D 41 [encY (auY k ps),encI l,encI w] [] (if isSet ps.length l && wordOk k w then .tup [.bool (endsB (paOf k ps).F (runB (paOf k ps) (toS l) w)),.int .i64 0] else .tup [.bool false,.int .i64 1]) [] := by
 refine loc_rd mixedP tok rfl rfl fun S => ?_
 unfold c41
 have h88 := spec88_ok (D + 1) k ps hps hrl hY hv hb l hl
 have h85 := spec85 (D + 1) (paOf k ps) hps.len hps.kle hrows hw (toS l) w hwl
 have h69 := spec69 (D + 1) (paOf k ps) (runB (paOf k ps) (toS l) w)
 have hk : (paOf k ps).k = k := rfl
 rw [rRun,hk] at h85
 generalize hr : (if isSet ps.length l && wordOk k w then AV.tup [.bool (endsB (paOf k ps).F (runB (paOf k ps) (toS l) w)),.int .i64 0] else .tup [.bool false,.int .i64 1]) = r
 generalize paOf k ps = A at *
 rw [encY_au] at h88 ⊢
 simp [encI_left]
 refine Rd_call h88 (by simp) ?_
 cases hok : isSet ps.length l with
 | false =>
  rw [hok,Bool.false_and,if_neg (by simp)] at hr
  simp [zS,encS]
  simp [← hr]
 | true =>
  rw [hok,Bool.true_and] at hr
  simp [encS]
  refine Rd_call h85 (by simp [encS]) ?_
  cases hwo : wordOk k w with
  | false =>
   rw [hwo,if_neg (by simp)] at hr
   simp [encS]
   simp [← hr]
  | true =>
   rw [hwo,if_pos rfl] at hr
   simp [encS]
   refine Rd_call h69 (by simp [encS]) ?_
   simp [← hr]
def rWord : Option (List Nat) → AV
 | none => .tup [.sl 1 [] .no,.bool false,.int .i64 0]
 | some w => .tup [.sl 1 (w.map encN) .no,.bool true,.int .i64 0]
theorem spec51_ok (D k : Nat) (ps : List (Bool × List (List Nat))) (hps : AuOk k ps) (hrl : ∀ p ∈ ps,∀ r ∈ p.2,r.length ≤ maxLen) (hY : isY (auY k ps) = true) (hv : ∀ v ∈ (auY k ps).m,fitV v) (hb : nodesVs (auY k ps).m ≤ 2 ^ 32) (l : List Int) (hl : l.length ≤ maxLen)
  (o : Option (List Nat)) (h92 : isSet ps.length l = true → Go.Ab.Loc Pg Gl (D + 1) 92 [encA (paOf k ps),encS (toS l)] [] (rLeast o) []) :
  Go.Ab.Loc Pg Gl D 51 [encY (auY k ps),encI l] [] (if isSet ps.length l then rWord o else .tup [.sl 1 [] .no,.bool false,.int .i64 1]) [] := by
 refine loc_rd mixedP tok rfl rfl fun S => ?_
 unfold c51
 have h88 := spec88_ok (D + 1) k ps hps hrl hY hv hb l hl
 generalize paOf k ps = A at *
 rw [encY_au] at h88 ⊢
 generalize hr : (if isSet ps.length l then rWord o else AV.tup [.sl 1 [] .no,.bool false,.int .i64 1]) = r
 simp [encI_left]
 refine Rd_call h88 (by simp) ?_
 cases hok : isSet ps.length l with
 | false =>
  rw [hok,if_neg (by simp)] at hr
  simp [zS,encS]
  simp [← hr]
 | true =>
  rw [hok,if_pos rfl] at hr
  have h92 := h92 hok
  simp [encS]
  refine Rd_call h92 (by simp [encS]) ?_
  cases o with
  | none => simp [rLeast]; simp [← hr,rWord]
  | some w => simp [rLeast]; simp [← hr,rWord]
end Go.Ab.Tab
/- The fixed calls (24). -/
namespace Go.Ab.Tab
open Go Go.Ab
set_option maxRecDepth 10000
set_option linter.unusedVariables false
set_option linter.unusedSimpArgs false
def ps0 : List (Bool × List (List Nat)) := [(false,[[0,1]]),(true,[[]])]
theorem ps0_is : isY (auY 1 ps0) = true := by kernel_rfl
theorem ps0_ok : AuOk 1 ps0 := ⟨by omega,by omega,by decide,by decide⟩
theorem ps0_det : addAll (paOf 1 ps0).n [[0]] [] = some [(1#64,0#64)] := by kernel_rfl
theorem ps0_detR : detR (paOf 1 ps0) 102 0 [(1#64,0#64)] [] = some (some ([(1#64,0#64),(3#64,0#64)],[(false,[1]),(true,[1])])) := by kernel_rfl
theorem ps0_bfs : bfs (paOf 1 ps0) 10 0 (toS [0],(toS [0]).list.map met0) = some (some 1,[(0,-1,0),(1,0,0)]) := by kernel_rfl
theorem paOf_rl (k : Nat) (ps : List (Bool × List (List Nat))) : (paOf k ps).rows.length = (paOf k ps).n := by simp [paOf]
theorem paOf_w {k : Nat} {ps : List (Bool × List (List Nat))} (hps : AuOk k ps) : ∀ r ∈ (paOf k ps).rows,r.length = k := by
 intro r hr
 simp only [paOf] at hr
 obtain ⟨p,hp,rfl⟩ := List.mem_map.1 hr
 rw [List.length_map]
 exact (hps.row p hp).1
theorem mem_list {s : BS} {y : Nat} : y ∈ s.list ↔ s.has y = true := by
 unfold BS.list
 rw [List.mem_filter,List.mem_range]
 exact ⟨fun h => h.2,fun h => ⟨has_lt h,h⟩⟩
theorem rowA_lt {k : Nat} {ps : List (Bool × List (List Nat))} (hps : AuOk k ps) : ∀ x l,∀ y ∈ (rowA (paOf k ps) x l).list,y < (paOf k ps).n := by
 intro x l y hy
 have hy := mem_list.1 hy
 have e : rowA (paOf k ps) x l = toN (rowN ps x l) := cellA_paOf k ps x l
 rw [e] at hy
 have hlt := has_lt hy
 have hr : ∀ z ∈ rowN ps x l,z < ps.length := by
  intro z hz
  unfold rowN at hz
  cases hp : ps[x]? with
  | none => rw [hp] at hz; simp at hz
  | some p =>
   rw [hp] at hz
   simp only [Option.map_some,Option.getD_some] at hz
   cases hq : p.2[l]? with
   | none => rw [hq] at hz; simp at hz
   | some r =>
    rw [hq] at hz
    exact (hps.row p (mem_of_get hp)).2 r (mem_of_get hq) z hz
 rw [has_toN hlt (fun z hz => by have := hr z hz; have := hps.len; omega)] at hy
 exact hr y (by simpa using hy)
theorem toS_lt {n : Nat} (hn : n ≤ 128) {l : List Int} (hl : Below n l) : ∀ y ∈ (toS l).list,y < n := by
 intro y hy
 have hy := mem_list.1 hy
 rw [has_toS hn hl (has_lt hy)] at hy
 have := hl _ (of_decide_eq_true hy)
 omega
theorem spec65 (D : Nat) : Go.Ab.Loc Pg Gl D 65 [] [] (encY (auY 1 ps0)) [] := by
 refine loc_rd mixedP tok rfl rfl fun S => ?_
 unfold c65
 have h90 := spec90 (D + 1) 1
 have htyp : encF (typ 1) = .agg [.int .i64 2,.int .i64 0,.sl 3 ([.mk 1 2 [],.mk 4 (1 : Nat) [.mk 5 0 [.mk 0 0 []]]].map encF) .no] := by unfold typ; rw [encF_mk]
 rw [htyp] at h90
 generalize hr : encY (auY 1 ps0) = r
 rw [encY_au] at hr
 simp
 refine Rd_drCall h90 (by simp) ?_
 simp [apartB]
 simp [← hr,ps0,encV_au,mkRow,encV_mk,encV_st]
 done
theorem ps0_rl : ∀ p ∈ ps0,∀ r ∈ p.2,r.length ≤ maxLen := by
 intro p hp r hr
 simp only [ps0,List.mem_cons,List.mem_nil_iff,or_false] at hp
 rcases hp with rfl | rfl
 ·simp only [List.mem_cons,List.mem_nil_iff,or_false] at hr
  subst hr; unfold maxLen; decide
 ·simp only [List.mem_cons,List.mem_nil_iff,or_false] at hr
  subst hr; unfold maxLen; decide
theorem ps0_fit : ∀ v ∈ (auY 1 ps0).m,fitV v := by
 intro v hv
 simp only [auY,ps0,List.map_cons,List.map_nil,List.mem_cons,List.mem_nil_iff,or_false] at hv
 rcases hv with rfl | rfl <;> simp [mkAu,mkRow,mkOut,mkSt,fitV,fitVs,maxLen]
theorem ps0_nodes : nodesVs (auY 1 ps0).m ≤ 2 ^ 32 := Nat.le_of_ble_eq_true (by kernel_rfl)
theorem bad_fit : fitF (.mk (-1) 0 []) := by simp [fitF,fitFs,maxLen]
theorem bad_is : isY ⟨.mk (-1) 0 [],[]⟩ = false := by kernel_rfl
theorem ps0_least : leastR (paOf 1 ps0) (toS [0]) (some 1,[(0,-1,0),(1,0,0)]) = some [0] := by kernel_rfl
theorem ps0_names : namesL [(1#64,0#64),(3#64,0#64)] = [[0],[0,1]] := by kernel_rfl
theorem ps0_set : isSet ps0.length [0] = true := by kernel_rfl
theorem spec24 (D : Nat) : Go.Ab.Loc Pg Gl D 24 [] [] (.bool true) [] := by
 refine loc_rd mixedP tok rfl rfl fun S => ?_
 unfold c24
 have hw : ∀ r ∈ (paOf 1 ps0).rows,(paOf 1 ps0).k ≤ r.length := fun r hr => by rw [paOf_w ps0_ok r hr]; exact Nat.le_refl _
 have h25 := spec25_ok (D + 1) 1 ps0 ps0_ok ps0_rl ps0_is ps0_fit ps0_nodes (paOf_rl 1 ps0) hw [[0]] (by simp) (by simp [maxLen])
  (rDet 1 (some ([(1#64,0#64),(3#64,0#64)],[(false,[1]),(true,[1])]))) (by unfold detRes; rw [ps0_det]; exact ⟨_,ps0_detR,rfl⟩)
 have h92 := fun (_ : isSet ps0.length [0] = true) => spec92 (D + 1 + 1) (paOf 1 ps0) (by show 2 ≤ 100; omega) (by show 1 ≤ 4; omega) (paOf_rl 1 ps0) hw (fun r hr => by rw [paOf_w ps0_ok r hr]; omega) (rowA_lt ps0_ok) (toS [0])
  (toS_lt (n := (paOf 1 ps0).n) (by show 2 ≤ 128; omega) (isSet_below ps0_set)) 10 (by omega) _ ps0_bfs (by intro k hk; injection hk with hk; subst hk; decide)
 rw [ps0_least] at h92
 have h51 := spec51_ok (D + 1) 1 ps0 ps0_ok ps0_rl ps0_is ps0_fit ps0_nodes [0] (by simp [maxLen]) (some [0]) h92
 rw [ps0_set,if_pos rfl,rWord] at h51
 have h46 := spec46_ok (D + 1) 1 ps0 ps0_ok ps0_rl ps0_is ps0_fit ps0_nodes
 have h46b := spec46_bad (D + 1) ⟨.mk (-1) 0 [],[]⟩ bad_fit (by simp) (by simp) (Nat.le_of_ble_eq_true (by kernel_rfl)) (.inl bad_is)
 rw [bad_is] at h46b
 have h29 := spec29 (D + 1) [[0],[0,1]] (by simp [maxLen]) (by simp [maxLen])
 have h19 := spec19 (D + 1) [0] [0] (by simp [maxLen])
 have h65 := spec65 (D + 1)
 rw [rDet,ps0_names] at h25
 have hD : encY (sysD 1 [(false,[1]),(true,[1])]) = .agg [.int .i64 2,.int .i64 0,.sl 3 ((gsD 1).map encF) .no,.sl 3 [encV (mkDet (false,[1])),encV (mkDet (true,[1]))] .no] := rfl
 rw [hD] at h25
 have hY : encY (auY 1 ps0) = .agg [.int .i64 2,.int .i64 0,.sl 3 ([.mk 1 2 [],.mk 4 (1 : Nat) [.mk 5 0 [.mk 0 0 []]]].map encF) .no,.sl 3 (ps0.map fun p => encV (mkAu p)) .no] := encY_au 1 ps0
 rw [hY] at h25 h51 h46 h65
 simp
 refine Rd_call h65 (by simp) ?_
 simp
 refine Rd_call h25 (by simp [encLs,encI]) ?_
 simp
 refine Rd_call h65 (by simp) ?_
 simp
 refine Rd_call h51 (by simp [encI]) ?_
 simp
 refine Rd_call h65 (by simp) ?_
 simp
 refine Rd_call h46 (by simp) ?_
 simp
 refine Rd_call h46b (by simp [encY,Fu.k,Fu.n,Fu.gs]) ?_
 simp [encLN]
 refine Rd_call h29 (by simp [encLs,encI,encN]) ?_
 simp
 refine Rd_call h19 (by simp [encI,encN]) ?_
 simp
end Go.Ab.Tab
/- The reference's Reached (73). -/
namespace Go.Ab.Tab
open Go Go.Ab
set_option maxRecDepth 10000
set_option linter.unusedVariables false
set_option linter.unusedSimpArgs false
def addL (all : List (List Int)) (y : List Int) : Nat × List (List Int) := match idxL y 0 all with | some i => (i,all) | none => (all.length,all ++ [y])
def addLs : List (List Int) → List (List Int) → List (List Int)
 | [],all => all
 | x :: ls,all => addLs ls (addL all x).2
abbrev Aut := List (Bool × List (List Nat))
def stepR (ps : Aut) (x : List Int) : Nat → Nat → List (List Int) × List Nat → List (List Int) × List Nat
 | 0,_,p => p
 | j + 1,a,p => stepR ps x j (a + 1) ((addL p.1 (nx ps a x)).2,p.2 ++ [(addL p.1 (nx ps a x)).1])
def reachR (k : Nat) (ps : Aut) : Nat → Nat → List (List Int) → List (List Nat) → Option (List (List Int) × List (List Nat))
 | 0,_,_,_ => none
 | f + 1,i,all,to => match all[i]? with
  | none => some (all,to)
  | some x => if all.length ≤ 100 then reachR k ps f (i + 1) (stepR ps x k 0 (all,[])).1 (to ++ [(stepR ps x k 0 (all,[])).2]) else some (all,to)
theorem addL_len (all : List (List Int)) (y : List Int) : (addL all y).2.length ≤ all.length + 1 ∧ all.length ≤ (addL all y).2.length := by unfold addL; split <;> simp
theorem stepR_len (ps : Aut) (x : List Int) : ∀ (j a : Nat) (p : List (List Int) × List Nat),(stepR ps x j a p).1.length ≤ p.1.length + j
 | 0,a,p => by simp [stepR]
 | j + 1,a,p => by
  rw [stepR]
  have h := stepR_len ps x j (a + 1) ((addL p.1 (nx ps a x)).2,p.2 ++ [(addL p.1 (nx ps a x)).1])
  have h2 := addL_len p.1 (nx ps a x)
  simp only at h
  omega
def VSs (n : Nat) (all : List (List Int)) : Prop := ∀ l ∈ all,VS n l
theorem addL_vs {n : Nat} {all : List (List Int)} {y : List Int} (h : VSs n all) (hy : VS n y) : VSs n (addL all y).2 := by
 unfold addL
 split
 ·exact h
 ·intro l hl
  rcases List.mem_append.1 hl with hl | hl
  ·exact h l hl
  ·rw [List.mem_singleton.1 hl]; exact hy
theorem nx_vs {k : Nat} {ps : Aut} (hps : AuOk k ps) (a : Nat) (x : List Int) : VS ps.length (nx ps a x) := lN_vs hps.len _
theorem stepR_vs {k : Nat} {ps : Aut} (hps : AuOk k ps) (x : List Int) : ∀ (j a : Nat) (p : List (List Int) × List Nat),VSs ps.length p.1 → VSs ps.length (stepR ps x j a p).1
 | 0,a,p,h => h
 | j + 1,a,p,h => stepR_vs hps x j (a + 1) _ (addL_vs h (nx_vs hps a x))
theorem stepR_row (ps : Aut) (x : List Int) : ∀ (j a : Nat) (p : List (List Int) × List Nat),(stepR ps x j a p).2.length = p.2.length + j
 | 0,a,p => rfl
 | j + 1,a,p => by
  rw [stepR,stepR_row ps x j (a + 1)]
  simp; omega
end Go.Ab.Tab
/- The reference's Deterministic (28). -/
namespace Go.Ab.Tab
open Go Go.Ab
set_option maxRecDepth 10000
set_option linter.unusedVariables false
set_option linter.unusedSimpArgs false
@[simp] theorem encSt_one (x : Nat) : (encV (mkSt x)).one = false := by rw [encV_st]; rfl
def rowsR (ps : Aut) (all : List (List Int)) (to : List (List Nat)) : List (Bool × List Nat) := List.zipWith (fun l r => (finL ps l,r)) all to
structure ROk (k : Nat) (ps : Aut) (res : List (List Int) × List (List Nat)) : Prop where
 vs : VSs ps.length res.1
 le : res.2.length ≤ res.1.length
 row : ∀ r ∈ res.2,r.length = k
 len : res.1.length ≤ 2000
theorem reachR_ok {k : Nat} {ps : Aut} (hps : AuOk k ps) {res : List (List Int) × List (List Nat)} : ∀ (f i : Nat) (all : List (List Int)) (to : List (List Nat)),reachR k ps f i all to = some res → VSs ps.length all → to.length = i → i ≤ all.length → (∀ r ∈ to,r.length = k) → all.length ≤ 1004 → ROk k ps res
 | 0,i,all,to,h,_,_,_,_,_ => by cases h
 | f + 1,i,all,to,h,hv,ht,hi,hr,hl => by
  rw [reachR] at h
  split at h
  ·injection h with h; subst h; exact ⟨hv,by simp; omega,hr,by simp; omega⟩
  ·rename_i x hx
   have hil := (List.getElem?_eq_some_iff.1 hx).1
   split at h
   ·have hk := hps.kle
    have h1 := stepR_len ps x k 0 (all,[])
    have h2 := stepR_row ps x k 0 (all,[])
    have h3 := stepR_vs hps x k 0 (all,[]) hv
    have h4 : ∀ (j a : Nat) (p : List (List Int) × List Nat),p.1.length ≤ (stepR ps x j a p).1.length := by
     intro j
     induction j with
     | zero => intro a p; exact Nat.le_refl _
     | succ j ih =>
      intro a p
      have := ih (a + 1) ((addL p.1 (nx ps a x)).2,p.2 ++ [(addL p.1 (nx ps a x)).1])
      exact Nat.le_trans (addL_len p.1 (nx ps a x)).2 this
    have h5 := h4 k 0 (all,[])
    simp only [List.length_nil,Nat.zero_add] at h1 h2 h5
    refine reachR_ok hps f (i + 1) _ _ h h3 (by simp [ht]) (by omega) (fun r hr' => ?_) (by omega)
    rcases List.mem_append.1 hr' with hr' | hr'
    ·exact hr r hr'
    ·rw [List.mem_singleton.1 hr']; exact h2
   ·injection h with h; subst h; exact ⟨hv,by simp; omega,hr,by simp; omega⟩
end Go.Ab.Tab
/- Determinizing: the program's sets and the reference's. -/
namespace Go.Ab.Tab
open Go Go.Ab
set_option maxRecDepth 10000
set_option linter.unusedVariables false
set_option linter.unusedSimpArgs false
theorem isSetFrom_gt {n : Int} : ∀ {l : List Int} {y : Int},isSetFrom n (some y) l = true → ∀ x ∈ l,y < x
 | [],_,_,x,hx => by cases hx
 | z :: l,y,h,x,hx => by
  simp only [isSetFrom,prevOk,Bool.and_eq_true,decide_eq_true_eq] at h
  rcases List.mem_cons.1 hx with rfl | hx
  ·exact h.1.2
  ·have := isSetFrom_gt h.2 x hx; omega
theorem set_ext {n : Int} : ∀ {a b : List Int} {p q : Option Int},isSetFrom n p a = true → isSetFrom n q b = true → (∀ x,x ∈ a ↔ x ∈ b) → a = b
 | [],[],_,_,_,_,_ => rfl
 | [],y :: b,_,_,_,_,h => by have := (h y).2 (by simp); cases this
 | x :: a,[],_,_,_,_,h => by have := (h x).1 (by simp); cases this
 | x :: a,y :: b,p,q,ha,hb,h => by
  simp only [isSetFrom,Bool.and_eq_true] at ha hb
  have ga := isSetFrom_gt ha.2
  have gb := isSetFrom_gt hb.2
  have hxy : x = y := by
   rcases List.mem_cons.1 ((h x).1 (by simp)) with e | e
   ·exact e
   ·rcases List.mem_cons.1 ((h y).2 (by simp)) with e' | e'
    ·exact e'.symm
    ·have := gb x e; have := ga y e'; omega
  subst hxy
  rw [set_ext ha.2 hb.2 fun z => ?_]
  constructor
  ·intro hz
   rcases List.mem_cons.1 ((h z).1 (by simp [hz])) with e | e
   ·have := ga z hz; omega
   ·exact e
  ·intro hz
   rcases List.mem_cons.1 ((h z).2 (by simp [hz])) with e | e
   ·have := gb z hz; omega
   ·exact e
theorem toS_inj {n : Nat} {a b : List Int} (ha : VS n a) (hb : VS n b) (h : toS a = toS b) : a = b := by
 have hn := ha.nle
 refine set_ext (n := n) (p := none) (q := none) ha.is hb.is fun x => ?_
 have key : ∀ {l : List Int},VS n l → (x ∈ l ↔ (0 ≤ x ∧ x < n) ∧ (toS l).has x.toNat = true) := by
  intro l hl
  constructor
  ·intro hx
   have hr := hl.below x hx
   refine ⟨hr,?_⟩
   rw [has_toS (by omega) hl.below (by omega),decide_eq_true_eq]
   rw [Int.toNat_of_nonneg hr.1]; exact hx
  ·rintro ⟨hr,hh⟩
   rw [has_toS (by omega) hl.below (by omega),decide_eq_true_eq,Int.toNat_of_nonneg hr.1] at hh
   exact hh
 rw [key ha,key hb,h]
theorem list_toS {n : Nat} {l : List Int} (h : VS n l) : (toS l).list.map (fun (x : Nat) => (x : Int)) = l := by
 have hn := h.nle
 rw [list_eq (by omega) h.full]
 exact toS_inj (lN_vs hn _) h (toS_lN hn h.full)
theorem findB_idx {n : Nat} {y : List Int} (hy : VS n y) : ∀ (k : Nat) (all : List (List Int)),VSs n all → findB k (all.map toS) (toS y) = idxL y k all
 | k,[],_ => rfl
 | k,l :: all,h => by
  rw [List.map_cons,findB,idxL]
  have hl := h l (by simp)
  by_cases e : y = l
  ·rw [if_pos (by rw [e]),if_pos e]
  ·rw [if_neg (fun q => e (toS_inj hy hl q)),if_neg e]
   exact findB_idx hy (k + 1) all fun z hz => h z (by simp [hz])
theorem addB_addL {n : Nat} {y : List Int} {all : List (List Int)} (hy : VS n y) (h : VSs n all) : addB (all.map toS) (toS y) = ((addL all y).1,(addL all y).2.map toS) := by
 unfold addB addL
 rw [findB_idx hy 0 all h]
 cases idxL y 0 all with
 | none => simp
 | some i => rfl
theorem addAll_ok {n : Nat} : ∀ (sets all : List (List Int)),VSs n sets → VSs n all → addAll n sets (all.map toS) = some ((addLs sets all).map toS) ∧ VSs n (addLs sets all)
 | [],all,_,h => ⟨rfl,h⟩
 | x :: sets,all,hs,h => by
  have hx := hs x (by simp)
  rw [addAll,hx.is,if_pos rfl,addB_addL hx h,addLs]
  exact addAll_ok sets _ (fun l hl => hs l (by simp [hl])) (addL_vs h hx)
theorem stepD_stepR {k : Nat} {ps : Aut} (hps : AuOk k ps) {x : List Int} (hx : VS ps.length x) : ∀ (j a : Nat) (all : List (List Int)) (row : List Nat),VSs ps.length all →
  stepD (paOf k ps) (toS x) j a (all.map toS,row) = ((stepR ps x j a (all,row)).1.map toS,(stepR ps x j a (all,row)).2)
 | 0,a,all,row,_ => rfl
 | j + 1,a,all,row,h => by
  rw [stepD,stepR,← toS_nx hps a hx.below]
  have hy := nx_vs hps a x
  rw [addB_addL hy h]
  exact stepD_stepR hps hx j (a + 1) _ _ (addL_vs h hy)
theorem addL_pre {all : List (List Int)} {y : List Int} {i : Nat} {x : List Int} (h : all[i]? = some x) : (addL all y).2[i]? = some x := by
 unfold addL
 split
 ·exact h
 ·simp only []; rw [List.getElem?_append_left (List.getElem?_eq_some_iff.1 h).1]; exact h
theorem stepR_pre (ps : Aut) (x : List Int) {i : Nat} {z : List Int} : ∀ (j a : Nat) (p : List (List Int) × List Nat),p.1[i]? = some z → (stepR ps x j a p).1[i]? = some z
 | 0,a,p,h => h
 | j + 1,a,p,h => stepR_pre ps x j (a + 1) _ (addL_pre h)
theorem stepR_ge (ps : Aut) (x : List Int) : ∀ (j a : Nat) (p : List (List Int) × List Nat),p.1.length ≤ (stepR ps x j a p).1.length
 | 0,a,p => Nat.le_refl _
 | j + 1,a,p => Nat.le_trans (addL_len p.1 (nx ps a x)).2 (stepR_ge ps x j (a + 1) ((addL p.1 (nx ps a x)).2,p.2 ++ [(addL p.1 (nx ps a x)).1]))
theorem rowsR_snoc {ps : Aut} {all all2 : List (List Int)} {to : List (List Nat)} {r : List Nat} {x : List Int} (hx : all[to.length]? = some x) (hp : ∀ (i : Nat) z,all[i]? = some z → all2[i]? = some z) : rowsR ps all2 (to ++ [r]) = rowsR ps all to ++ [(finL ps x,r)] := by
 unfold rowsR
 have hl := (List.getElem?_eq_some_iff.1 hx).1
 apply List.ext_getElem?
 intro i
 rw [List.getElem?_zipWith]
 rcases Nat.lt_trichotomy i to.length with h | h | h
 ·rw [List.getElem?_append_left h,List.getElem?_append_left (by rw [List.length_zipWith]; omega),List.getElem?_zipWith]
  have h1 : all[i]? = some all[i] := List.getElem?_eq_getElem (by omega)
  rw [hp i _ h1,h1]
 ·subst h
  rw [List.getElem?_append_right (Nat.le_refl _),List.getElem?_append_right (by rw [List.length_zipWith]; omega),hp _ _ hx]
  have e : to.length - (List.zipWith (fun l r => (finL ps l,r)) all to).length = 0 := by rw [List.length_zipWith]; omega
  rw [e]
  simp
 ·rw [List.getElem?_append_right (by omega),List.getElem?_eq_none (l := [r]) (by simp; omega)]
  rw [List.getElem?_append_right (by rw [List.length_zipWith]; omega),List.getElem?_eq_none (l := [(finL ps x,r)]) (by simp [List.length_zipWith]; omega)]
  cases all2[i]? <;> rfl
theorem detR_reachR {k : Nat} {ps : Aut} (hps : AuOk k ps) {res : List (List Int) × List (List Nat)} : ∀ (f i : Nat) (all : List (List Int)) (to : List (List Nat)),reachR k ps f i all to = some res → VSs ps.length all → to.length = i → i ≤ all.length → 102 ≤ f + i → i ≤ 100 →
  detR (paOf k ps) f i (all.map toS) (rowsR ps all to) = some (if res.1.length ≤ 100 then some (res.1.map toS,rowsR ps res.1 res.2) else none)
 | 0,i,all,to,h,_,_,_,_,_ => by cases h
 | f + 1,i,all,to,h,hv,ht,hi,hf,h100 => by
  rw [reachR] at h
  rw [detR]
  cases hx : all[i]? with
  | none =>
   rw [hx] at h
   injection h with h; subst h
   have hl : all.length ≤ i := by
    rcases Nat.lt_or_ge i all.length with q | q
    ·rw [List.getElem?_eq_getElem q] at hx; cases hx
    ·exact q
   rw [List.getElem?_map,hx]
   simp only [Option.map_none]
   rw [if_pos (by omega)]
  | some x =>
   rw [hx] at h
   simp only at h
   have hil := (List.getElem?_eq_some_iff.1 hx).1
   have hvx := hv x (mem_of_get hx)
   have hstep := stepD_stepR hps hvx k 0 all [] hv
   have hA : (paOf k ps).k = k := rfl
   have hend : endsB (paOf k ps).F (toS x) = finL ps x := (finL_ends hps.len hvx.below).symm
   rw [List.getElem?_map,hx]
   simp only [Option.map_some]
   by_cases hle : all.length ≤ 100
   ·rw [if_pos hle] at h
    have hine : ¬ i = 100 := by omega
    rw [if_neg hine]
    have e1 : stepK (paOf k ps) (toS x) (all.map toS) = ((stepR ps x k 0 (all,[])).1.map toS,(stepR ps x k 0 (all,[])).2) := by unfold stepK; rw [hA]; exact hstep
    rw [e1,hend]
    have hpre : ∀ (j : Nat) z,all[j]? = some z → (stepR ps x k 0 (all,[])).1[j]? = some z := fun j z hz => stepR_pre ps x k 0 (all,[]) hz
    have hrs := rowsR_snoc (ps := ps) (r := (stepR ps x k 0 (all,[])).2) (to := to) (x := x) (by rw [ht]; exact hx) hpre
    rw [← hrs]
    have hge := stepR_ge ps x k 0 (all,[])
    simp only at hge
    exact detR_reachR hps f (i + 1) _ _ h (stepR_vs hps x k 0 (all,[]) hv) (by simp [ht]) (by omega) (by omega) (by omega)
   ·rw [if_neg hle] at h
    injection h with h; subst h
    rw [if_neg (show ¬ all.length ≤ 100 from hle)]
    -- too large already: the program goes on until it has 100
    have big : ∀ (m i f : Nat) (L : List BS) (rs : List (Bool × List Nat)),i + m = 100 → m < f → 100 < L.length → detR (paOf k ps) f i L rs = some none := by
     intro m
     induction m with
     | zero =>
      intro i f L rs hi hm hL
      obtain ⟨f,rfl⟩ : ∃ g,f = g + 1 := ⟨f - 1,by omega⟩
      rw [detR,List.getElem?_eq_getElem (show i < L.length by omega)]
      simp only []
      rw [if_pos (by omega)]
     | succ m ih =>
      intro i f L rs hi hm hL
      obtain ⟨f,rfl⟩ : ∃ g,f = g + 1 := ⟨f - 1,by omega⟩
      rw [detR,List.getElem?_eq_getElem (show i < L.length by omega)]
      simp only []
      rw [if_neg (by omega)]
      have := (stepD_len (paOf k ps) L[i] (paOf k ps).k 0 (L,[])).2
      exact ih (i + 1) f _ _ (by omega) (by omega) (by unfold stepK; simp only at this; omega)
    have := big (100 - i) i (f + 1) (all.map toS) (rowsR ps all to) (by omega) (by omega) (by rw [List.length_map]; omega)
    rw [detR,List.getElem?_map,hx] at this
    simp only [Option.map_some] at this
    exact this
theorem reachR_some {k : Nat} {ps : Aut} : ∀ (f i : Nat) (all : List (List Int)) (to : List (List Nat)),102 ≤ f + i → i ≤ all.length → (i ≤ 100 ∨ 100 < all.length) → i ≤ 101 → ∃ res,reachR k ps f i all to = some res
 | 0,i,all,to,h,h1,h2,h3 => by omega
 | f + 1,i,all,to,h,h1,h2,h3 => by
  rw [reachR]
  cases hx : all[i]? with
  | none => exact ⟨_,rfl⟩
  | some x =>
   have hil := (List.getElem?_eq_some_iff.1 hx).1
   simp only []
   by_cases hle : all.length ≤ 100
   ·rw [if_pos hle]
    have hge := stepR_ge ps x k 0 (all,[])
    simp only at hge
    exact reachR_some f (i + 1) _ _ (by omega) (by omega) (.inl (by omega)) (by omega)
   ·rw [if_neg hle]; exact ⟨_,rfl⟩
end Go.Ab.Tab
/- Determinizing: what the program answers,by cases. -/
namespace Go.Ab.Tab
open Go Go.Ab
set_option maxRecDepth 10000
set_option linter.unusedVariables false
set_option linter.unusedSimpArgs false
structure AuG (k : Nat) (ps : Aut) : Prop where
 ok : AuOk k ps
 rl : ∀ p ∈ ps,∀ r ∈ p.2,r.length ≤ maxLen
 is : isY (auY k ps) = true
 fit : ∀ v ∈ (auY k ps).m,fitV v
 nodes : nodesVs (auY k ps).m ≤ 2 ^ 32
theorem AuG.w {k : Nat} {ps : Aut} (h : AuG k ps) : ∀ r ∈ (paOf k ps).rows,(paOf k ps).k ≤ r.length := fun r hr => by rw [paOf_w h.ok r hr]; exact Nat.le_refl _
theorem AuG.letters {k : Nat} {ps : Aut} (h : AuG k ps) : lettersF (auY k ps).f = k := letters_typ h.ok.kpos h.ok.kle
theorem AuG.mlen {k : Nat} {ps : Aut} : (auY k ps).m.length = ps.length := List.length_map _
theorem au_cases (s : Sy) (hv : ∀ v ∈ s.m,fitV v) (hb : nodesVs s.m ≤ 2 ^ 32) : (isY s = false ∨ lettersF s.f = 0) ∨ ∃ k ps,s = auY k ps ∧ AuG k ps := by
 cases hy : isY s with
 | false => exact .inl (.inl rfl)
 | true =>
  by_cases hl : lettersF s.f = 0
  ·exact .inl (.inr hl)
  ·obtain ⟨k,ps,hps,rfl⟩ := isY_au hy hl
   exact .inr ⟨k,ps,rfl,hps,fun p hp => fit_rows (hv _ (List.mem_map.2 ⟨p,hp,rfl⟩)),hy,hv,hb⟩
def detOut (ps : Aut) (res : List (List Int) × List (List Nat)) : Option (List BS × List (Bool × List Nat)) := if res.1.length ≤ 100 then some (res.1.map toS,rowsR ps res.1 res.2) else none
theorem det_valid {k : Nat} {ps : Aut} (h : AuG k ps) (sets : List (List Int)) (hs : sets.length ≤ 1000) (hsv : VSs ps.length sets) :
  ∃ res,reachR k ps 102 0 (addLs sets []) [] = some res ∧ ROk k ps res ∧ ∀ D,Go.Ab.Loc Pg Gl D 25 [encY (auY k ps),encLs sets] [] (rDet k (detOut ps res)) [] := by
 obtain ⟨a1,a2⟩ := addAll_ok (n := ps.length) sets [] hsv (by intro l hl; cases hl)
 have hll := addAll_len _ _ _ _ a1
 simp only [List.length_map,List.length_nil,Nat.zero_add,List.map_nil] at hll a1
 obtain ⟨res,hres⟩ := reachR_some (k := k) (ps := ps) 102 0 (addLs sets []) [] (by omega) (by omega) (.inl (by omega)) (by omega)
 have hrok := reachR_ok h.ok 102 0 (addLs sets []) [] hres a2 rfl (by omega) (by simp) (by omega)
 have hd := detR_reachR h.ok 102 0 (addLs sets []) [] hres a2 rfl (by omega) (by omega) (by omega)
 have e0 : rowsR ps (addLs sets []) [] = [] := by unfold rowsR; simp
 rw [e0] at hd
 refine ⟨res,hres,hrok,fun D => spec25_ok D k ps h.ok h.rl h.is h.fit h.nodes (paOf_rl k ps) h.w sets hs (fun l hl => (hsv l hl).len) _ ?_⟩
 unfold detRes
 have hn : (((paOf k ps).n : Nat) : Int) = ((ps.length : Nat) : Int) := rfl
 rw [hn,a1]
 exact ⟨_,hd,rfl⟩
theorem names_eq {n : Nat} {all : List (List Int)} (h : VSs n all) : encLN (namesL (all.map toS)) = encLs all := by
 unfold encLN namesL encLs
 rw [List.map_map,List.map_map]
 congr 1
 refine List.map_congr_left fun l hl => ?_
 show AV.sl 1 ((toS l).list.map encN) .no = encI l
 unfold encI
 conv => rhs; rw [← list_toS (h l hl)]
 rw [List.map_map]; rfl
theorem sysD_fit (k : Nat) (rs : List (Bool × List Nat)) (hr : ∀ p ∈ rs,p.2.length ≤ 1000) : fitF (sysD k rs).f ∧ ∀ v ∈ (sysD k rs).m,fitV v := by
 refine ⟨?_,fun v hv => ?_⟩
 ·simp [sysD,gsD,fitF,fitFs,maxLen]
 ·obtain ⟨p,hp,rfl⟩ := List.mem_map.1 hv
  have := hr p hp
  have h1 : fitVs (p.2.map mkSt) := fitVs_of fun a ha => by
   obtain ⟨x,_,rfl⟩ := List.mem_map.1 ha
   simp [mkSt,fitV,fitVs,maxLen]
  simp [mkDet,mkOut,fitV,fitVs,maxLen,h1]
  unfold maxLen at *
  omega
end Go.Ab.Tab
/- Law 5: DetAutomata. -/
namespace Go.Ab.Tab
open Go Go.Ab
set_option maxRecDepth 10000
set_option linter.unusedVariables false
set_option linter.unusedSimpArgs false
end Go.Ab.Tab
/- Lists of lists as arguments. -/
namespace Go.Ab
open Go
set_option maxRecDepth 10000
set_option linter.unusedVariables false
set_option linter.unusedSimpArgs false
namespace Tab
end Tab
end Go.Ab
/- The reference's First (52). -/
namespace Go.Ab.Tab
open Go Go.Ab
set_option maxRecDepth 10000
set_option linter.unusedVariables false
set_option linter.unusedSimpArgs false
abbrev MW := List (List Int) × List (List Nat)
structure MWOk (n i : Nat) (p : MW) : Prop where
 vs : VSs n p.1
 len : p.1.length = p.2.length
 short : ∀ w ∈ p.2,w.length ≤ i
theorem MWOk.mono {n i j : Nat} {p : MW} (h : MWOk n i p) (hij : i ≤ j) : MWOk n j p := ⟨h.vs,h.len,fun w hw => Nat.le_trans (h.short w hw) hij⟩
end Go.Ab.Tab
/- Acceptance of words by states; the order of words; the distances. -/
namespace Go.Ab.Tab
open Go Go.Ab
set_option maxRecDepth 10000
set_option linter.unusedVariables false
set_option linter.unusedSimpArgs false
structure AOk (A : PA) : Prop where
 n : A.n ≤ 100
 k : A.k ≤ 4
 rows : A.rows.length = A.n
 row : ∀ r ∈ A.rows,r.length = A.k
 lt : ∀ x l,∀ y ∈ (rowA A x l).list,y < A.n
theorem AuOk.a {k : Nat} {ps : Aut} (h : AuOk k ps) : AOk (paOf k ps) := ⟨h.len,h.kle,paOf_rl k ps,paOf_w h,rowA_lt h⟩
theorem rowA_cell (A : PA) (x l : Nat) : rowA A x l = cellA A x l := rfl
theorem has_row_k {A : PA} (h : AOk A) {x l y : Nat} (hy : (rowA A x l).has y = true) : x < A.n ∧ l < A.k ∧ y < A.n := by
 refine ⟨?_,?_,h.lt x l y (mem_list.2 hy)⟩
 ·apply Classical.byContradiction; intro hx
  unfold rowA at hy
  rw [List.getElem?_eq_none (l := A.rows) (by rw [h.rows]; omega)] at hy
  simp [BS.has] at hy
 ·apply Classical.byContradiction; intro hl
  unfold rowA at hy
  cases hr : A.rows[x]? with
  | none => rw [hr] at hy; simp [BS.has] at hy
  | some r =>
   rw [hr] at hy
   have := h.row r (mem_of_get hr)
   simp only [Option.getD_some] at hy
   rw [List.getElem?_eq_none (by omega)] at hy
   simp [BS.has] at hy
def AccS (A : PA) : Nat → List Nat → Prop
 | x,[] => A.F.has x = true
 | x,a :: w => ∃ y,(rowA A x a).has y = true ∧ AccS A y w
def runWd (A : PA) (u : BS) (w : List Nat) : BS := w.foldl (nextA A) u
def Acc (A : PA) (u : BS) (w : List Nat) : Prop := ∃ x,u.has x = true ∧ AccS A x w
theorem has_next {A : PA} (h : AOk A) {u : BS} {a y : Nat} : (nextA A u a).has y = true ↔ ∃ z,u.has z = true ∧ (rowA A z a).has y = true := by
 rw [has_nextA]
 constructor
 ·rintro ⟨z,_,h1,h2⟩; exact ⟨z,h1,h2⟩
 ·rintro ⟨z,h1,h2⟩; exact ⟨z,(has_row_k h h2).1,h1,h2⟩
theorem Acc_cons {A : PA} (h : AOk A) {u : BS} {a : Nat} {w : List Nat} : Acc A u (a :: w) ↔ Acc A (nextA A u a) w := by
 constructor
 ·rintro ⟨x,h1,y,h2,h3⟩; exact ⟨y,(has_next h).2 ⟨x,h1,h2⟩,h3⟩
 ·rintro ⟨y,h1,h2⟩
  obtain ⟨x,h3,h4⟩ := (has_next h).1 h1
  exact ⟨x,h3,y,h4,h2⟩
theorem Acc_run {A : PA} (h : AOk A) : ∀ {w : List Nat} {u : BS},Acc A u w ↔ endsB A.F (runWd A u w) = true
 | [],u => by rw [endsB_iff]; rfl
 | a :: w,u => by rw [Acc_cons h,Acc_run h]; rfl
end Go.Ab.Tab
/- The program's first word is the first word. -/
namespace Go.Ab.Tab
open Go Go.Ab
set_option maxRecDepth 10000
set_option linter.unusedVariables false
set_option linter.unusedSimpArgs false
structure BInv (A : PA) (s : BS) (K : Nat) (b : Int) (p : BP) : Prop where
 seen : ∀ y,p.1.has y = true ↔ ∃ (j : Nat) (q : Met),p.2[j]? = some q ∧ q.1 = y
 dist : ∀ (i j : Nat) (q q' : Met),p.2[i]? = some q → p.2[j]? = some q' → q.1 = q'.1 → i = j
 mok : MOk A.n p.2
 bnd : ∀ (j : Nat) (q : Met),p.2[j]? = some q → q.2.1 ≤ b
 from_ : ∀ (j : Nat) (q : Met),p.2[j]? = some q → 0 ≤ q.2.1 → ∃ (qf : Met) (l : Nat),p.2[q.2.1.toNat]? = some qf ∧ (rowA A qf.1 l).has q.1 = true
 init : ∀ (j : Nat) (q : Met),p.2[j]? = some q → q.2.1 < 0 → s.has q.1 = true
 all0 : ∀ y,s.has y = true → ∃ (j : Nat) (q : Met),p.2[j]? = some q ∧ q.1 = y ∧ q.2.1 < 0
 mono : ∀ (i j : Nat) (q q' : Met),p.2[i]? = some q → p.2[j]? = some q' → i ≤ j → q.2.1 ≤ q'.2.1
 closed : ∀ (i : Nat) (q : Met),i < K → p.2[i]? = some q → ∀ l y,(rowA A q.1 l).has y = true → ∃ (j : Nat) (q' : Met),p.2[j]? = some q' ∧ q'.1 = y ∧ q'.2.1 ≤ (i : Int)
 nofin : ∀ (i : Nat) (q : Met),i < K → p.2[i]? = some q → A.F.has q.1 = false
end Go.Ab.Tab
/- The program's least answers the first word. -/
namespace Go.Ab.Tab
open Go Go.Ab
set_option maxRecDepth 10000
set_option linter.unusedVariables false
set_option linter.unusedSimpArgs false
theorem nodup_le : ∀ (n : Nat) (xs : List Nat),xs.Nodup → (∀ x ∈ xs,x < n) → xs.length ≤ n
 | 0,xs,_,h => by
  cases xs with
  | nil => simp
  | cons x xs => have := h x (by simp); omega
 | n + 1,xs,hd,h => by
  have h1 := nodup_le n (xs.erase n) (hd.erase n) fun x hx => by
   have h2 := (hd.mem_erase_iff).1 hx
   have := h x h2.2
   have := h2.1
   omega
  rw [List.length_erase] at h1
  split at h1 <;> omega
theorem BInv.len {A : PA} {s : BS} {K : Nat} {b : Int} {p : BP} (h : BInv A s K b p) : p.2.length ≤ A.n := by
 have := nodup_le A.n (p.2.map (·.1)) (by
  rw [List.Nodup,List.pairwise_map,List.pairwise_iff_getElem]
  intro i j hi hj hij e
  have := h.dist i j _ _ (List.getElem?_eq_getElem hi) (List.getElem?_eq_getElem hj) e
  omega) (by
  intro x hx
  obtain ⟨q,hq,rfl⟩ := List.mem_map.1 hx
  obtain ⟨j,hj,e⟩ := List.getElem_of_mem hq
  exact (h.mok j q (by rw [List.getElem?_eq_getElem hj,e])).1)
 rwa [List.length_map] at this
end Go.Ab.Tab
/- The reference's First is the first word. -/
namespace Go.Ab.Tab
open Go Go.Ab
set_option maxRecDepth 10000
set_option linter.unusedVariables false
set_option linter.unusedSimpArgs false
theorem idxL_some {x : List Int} : ∀ {l : List (List Int)} {k j : Nat},idxL x k l = some j → k ≤ j ∧ l[j - k]? = some x
 | [],k,j,h => by cases h
 | y :: l,k,j,h => by
  rw [idxL] at h
  split at h
  ·rename_i e; injection h with h; subst h; subst e; exact ⟨Nat.le_refl _,by simp⟩
  ·obtain ⟨h1,h2⟩ := idxL_some h
   refine ⟨by omega,?_⟩
   obtain ⟨m,hm⟩ : ∃ m,j - k = m + 1 := ⟨j - k - 1,by omega⟩
   rw [hm,List.getElem?_cons_succ,show m = j - (k + 1) by omega]; exact h2
theorem idxL_none {x : List Int} : ∀ {l : List (List Int)} {k : Nat},idxL x k l = none → x ∉ l
 | [],k,_ => by simp
 | y :: l,k,h => by
  rw [idxL] at h
  split at h
  ·cases h
  ·rename_i e
   intro hm
   rcases List.mem_cons.1 hm with e' | hm
   ·exact e e'
   ·exact idxL_none h hm
end Go.Ab.Tab
/- Law 10: DetWords. -/
namespace Go.Ab.Tab
open Go Go.Ab
set_option maxRecDepth 10000
set_option linter.unusedVariables false
set_option linter.unusedSimpArgs false
theorem faultW_bad {s : Sy} (h : isY s = false ∨ lettersF s.f = 0) (l w : List Int) : faultW s l w = if isY s then 1 else 30 := by
 unfold faultW
 cases hy : isY s with
 | false => rfl
 | true => rw [if_pos rfl,if_pos (h.resolve_left (by rw [hy]; simp)),if_pos rfl]
theorem faultW_ok {k : Nat} {ps : Aut} (hG : AuG k ps) (l w : List Int) : faultW (auY k ps) l w = if isSet ps.length l && wordOk k w then 0 else 1 := by
 unfold faultW
 rw [hG.is,if_pos rfl,hG.letters,if_neg (by have := hG.ok.kpos; omega),AuG.mlen]
end Go.Ab.Tab
