/- Determinizing: a state's value is frozen; the outer loop (in 25). -/
import Derived.Test.YtpgdlniekkeikaaDoorWordsG
namespace Go.Ab.Tab
open Go Go.Ab
set_option maxRecDepth 10000
set_option linter.unusedVariables false
set_option linter.unusedSimpArgs false
def mkDet (p : Bool × List Nat) : Va := .mk 0 [mkOut p.1,.mk 0 (p.2.map mkSt) []] []
theorem encV_det (p : Bool × List Nat) : encV (mkDet p) = .agg [.int .i64 0,.sl 3 [.agg [.int .i64 (if p.1 then 1 else 0),.sl 3 [] .no,.sl 1 [] .no],.agg [.int .i64 0,.sl 3 (p.2.map fun x => encV (mkSt x)) .no,.sl 1 [] .no]] .no,.sl 1 [] .no] := by
 unfold mkDet mkOut
 rw [encV_mk]
 simp [encV_mk,Function.comp_def]
@[simp] theorem encDet_one (p) : (encV (mkDet p)).one = false := by rw [encV_det]; rfl
@[simp] theorem encDet_cells (p) : (encV (mkDet p)).cells = [.int .i64 0,.sl 3 [.agg [.int .i64 (if p.1 then 1 else 0),.sl 3 [] .no,.sl 1 [] .no],.agg [.int .i64 0,.sl 3 (p.2.map fun x => encV (mkSt x)) .no,.sl 1 [] .no]] .no,.sl 1 [] .no] := by rw [encV_det]; rfl
@[simp] theorem encDet_strip (p) : (encV (mkDet p)).strip = encV (mkDet p) := by rw [encV_det]; rfl
theorem mapM_still (s : St) (n : Nat) : ∀ {cs : List AV},(∀ c ∈ cs,c.still1 = true) → cs.mapM (frz s (n + 1)) = some (cs.map fun c => (c,[]))
 | [],_ => rfl
 | c :: cs,h => by
  rw [List.mapM_cons,frz_still1 s n (h c (by simp)),mapM_still s n (fun d hd => h d (by simp [hd]))]
  rfl
theorem groups_D : ∀ (r : List Nat),groups 3 true r.length (cellsD r) = r.map fun (x : Nat) => .agg [.int .i64 (x : Int),.sl 3 [] .no,.sl 1 [] .no]
 | [] => rfl
 | a :: r => by
  have e : cellsD (a :: r) = [.int .i64 (a : Int),.sl 3 [] .no,.sl 1 [] .no] ++ cellsD r := by simp [cellsD]
  rw [e,List.length_cons,groups,List.map_cons]
  have e1 : (([.int .i64 (a : Int),.sl 3 [] .no,.sl 1 [] .no] : List AV) ++ cellsD r).take 3 = [.int .i64 (a : Int),.sl 3 [] .no,.sl 1 [] .no] := by simp
  have e2 : (([.int .i64 (a : Int),.sl 3 [] .no,.sl 1 [] .no] : List AV) ++ cellsD r).drop 3 = cellsD r := by simp
  rw [e1,e2,groups_D r]; rfl
def killsD (D : Nat) : List Nat → List (Nat × Nat)
 | [] => [(D,76)]
 | _ :: _ => [(D,76),(D,114)]
theorem still1_of_strip1 {c d : AV} (h : c.strip1 = d) (hd : d.still1 = true) : c.still1 = true := by
 cases c <;> first | rfl | (subst h; exact hd)
theorem frz_D {D : Nat} {τ : Nat → AV} {ω : Nat → Ent} {S : Nat → Nat → Ent} {g18 g76 : Nat} {b : Bool} {r : List Nat} (hV : V25 D g18 g76 (if b then 1 else 0) τ ω r) (τ' : Nat → AV) :
  frz (stF 160 D τ' ω S) frzD (.agg [.int .i64 0,.own D 76 g76 0 2 3 true,.sl 1 [] .no]) = some (encV (mkDet (b,r)),killsD D r) := by
 obtain ⟨_,_,g,w76,w114⟩ := hV
 have h76 : ∀ n : Nat,frz (stF 160 D τ' ω S) (n + 3) (.own D 76 g76 0 2 3 true) = some (.sl 3 [.agg [.int .i64 (if b then 1 else 0),.sl 3 [] .no,.sl 1 [] .no],.agg [.int .i64 0,.sl 3 (r.map fun x => encV (mkSt x)) .no,.sl 1 [] .no]] .no,killsD D r) := by
  intro n
  have hA : frz (stF 160 D τ' ω S) (n + 2) (argsA D g r) = some (.sl 3 (r.map fun x => encV (mkSt x)) (match r with | [] => .nil | _ => .no),(killsD D r).drop 1) := by
   cases r with
   | nil => rfl
   | cons a r =>
    obtain ⟨cs,hcs,hcm⟩ := w114 (by simp)
    have hcl : cs.length = (r.length + 1) * 3 := by
     have := congrArg List.length hcm
     rw [List.length_map,cellsD_len,List.length_cons] at this
     exact this
    have hst : ∀ c ∈ cs,c.still1 = true := by
     intro c hc
     have : c.strip1 ∈ cellsD (a :: r) := by rw [← hcm]; exact List.mem_map.2 ⟨c,hc,rfl⟩
     unfold cellsD at this
     obtain ⟨x,_,hx⟩ := List.mem_flatMap.1 this
     refine still1_of_strip1 rfl ?_
     simp only [List.mem_cons,List.mem_nil_iff,or_false] at hx
     rcases hx with e | e | e <;> rw [e] <;> rfl
    have hone : cs.all AV.one = true := by
     rw [List.all_eq_true]
     intro c hc
     have := hst c hc
     cases c <;> first | rfl | cases this
    rw [argsA,frz]
    simp only [stF_look,if_true,show (114 < 160) = True by simp,hcs,stF_D]
    rw [if_pos ⟨trivial,trivial,by omega,.inl trivial,hone⟩]
    rw [List.drop_zero,List.take_of_length_le (by omega),mapM_still _ n hst]
    have e1 : (cs.map fun c => (c,([] : List (Nat × Nat)))).map (fun x => x.1.strip1) = cellsD (a :: r) := by rw [List.map_map]; exact hcm
    have e2 : ((cs.map fun c => (c,([] : List (Nat × Nat)))).map (·.2)).flatten = [] := by
     rw [List.map_map]
     simp
    simp only [e1,e2]
    have := groups_D (a :: r)
    rw [List.length_cons] at this
    rw [this]
    simp [killsD,encV_st]
  rw [frz]
  simp only [stF_look,if_true,show (76 < 160) = True by simp,w76,stF_D]
  have hone : ([.int .i64 (if b then 1 else 0),.sl 3 [] .nil,.sl 1 [] .nil,.int .i64 0,argsA D g r,.sl 1 [] .nil] : List AV).all AV.one = true := by cases r <;> rfl
  rw [if_pos ⟨trivial,trivial,by simp,.inl trivial,hone⟩]
  simp only [List.drop_zero,List.take,List.mapM_cons,List.mapM_nil,hA,frz_int,frz_sl,Option.pure_def,Option.bind_eq_bind,Option.bind_some]
  cases r <;> rfl
 rw [frzD,frz]
 simp only [List.mapM_cons,List.mapM_nil,frz_int,frz_sl,h76 16,Option.pure_def,Option.bind_eq_bind,Option.bind_some]
 rw [encV_det]
 simp
theorem RunW_loop {C : CallRel} {W : Way → St → Prop} {k : List AI} {s : St} {a : AC} (h : RunW C W (.lp a :: k) s) : RunW C W (.c (.loop a) :: k) s := by
 cases h with
 | lp h => exact .loop h
def stepK (A : PA) (x : BS) (L : List BS) : List BS × List Nat := stepD A x A.k 0 (L,[])
def detR (A : PA) : Nat → Nat → List BS → List (Bool × List Nat) → Option (Option (List BS × List (Bool × List Nat)))
 | 0,_,_,_ => none
 | f + 1,k,L,rs => match L[k]? with
  | none => some (some (L,rs))
  | some x => if k = 100 then some none else detR A f (k + 1) (stepK A x L).1 (rs ++ [(endsB A.F x,(stepK A x L).2)])
def gsD (k : Nat) : List Fu := [.mk 1 2 [],.mk 4 k [.mk 0 0 []]]
def e16 (A : PA) (rs : List (Bool × List Nat)) : Ent := (1,.cells [.int .i64 2,.int .i64 0,.sl 3 ((gsD A.k).map encF) .no,.sl 3 (rs.map fun p => encV (mkDet p)) .tip])
def zeroY : AV := .agg [.int .i64 0,.int .i64 0,.sl 3 [] .no,.sl 3 [] .no]
def sysD (k : Nat) (rs : List (Bool × List Nat)) : Sy := ⟨.mk 2 0 (gsD k),rs.map mkDet⟩
def namesL (L : List BS) : List (List Nat) := L.map BS.list
def encLN (L : List (List Nat)) : AV := .sl 1 (L.map fun l => .sl 1 (l.map encN) .no) .no
def rDet (k : Nat) : Option (List BS × List (Bool × List Nat)) → AV
 | none => .tup [zeroY,.sl 1 [] .no,.int .i64 2]
 | some (L,rs) => .tup [encY (sysD k rs),encLN (namesL L),.int .i64 0]
theorem stepD_len (A : PA) (x : BS) : ∀ (j l : Nat) (p : List BS × List Nat),(stepD A x j l p).1.length ≤ p.1.length + j ∧ p.1.length ≤ (stepD A x j l p).1.length
 | 0,l,p => by simp [stepD]
 | j + 1,l,p => by
  rw [stepD]
  have h := stepD_len A x j (l + 1) ((addB p.1 (nextA A x l)).2,p.2 ++ [(addB p.1 (nextA A x l)).1])
  have h2 : (addB p.1 (nextA A x l)).2.length ≤ p.1.length + 1 ∧ p.1.length ≤ (addB p.1 (nextA A x l)).2.length := by
   unfold addB
   split <;> simp
  simp only at h
  omega
theorem l25_2 (D : Nat) (A : PA) (hn : A.n ≤ 100) (hk4 : A.k ≤ 4) (hrows : A.rows.length = A.n) (hw : ∀ r ∈ A.rows,A.k ≤ r.length) (S) (r : AV) (res : Option (List BS × List (Bool × List Nat)))
  (hfin : res = none → r = rDet A.k none) (hgo : ∀ L rs,res = some (L,rs) → L.length ≤ 5000 → ∀ τ' ω',τ' 4 = .ptr D 4 1 0 → τ' 10 = .ptr D 10 1 0 → τ' 16 = .ptr D 16 1 0 → ω' 4 = (1,.cells [.int .i64 0,.int .i64 0,.sl 3 [] .tip,.sl 3 [] .tip]) → ω' 10 = lsB L → ω' 16 = e16 A rs →
   RunW (Loc Pg Gl) (fnQ (RetQ [.cell 4 true 4,.tmp 5,.tmp 6] r S)) [.c c25_k3] (stF 160 D τ' ω' S)) :
  ∀ (f k : Nat) (L : List BS) (rs : List (Bool × List Nat)) (τ ω),detR A f k L rs = some res → k ≤ 100 → L.length ≤ 1000 + 4 * k → rs.length ≤ k →
  F25 D A k τ ω L (e16 A rs) → RunW (Loc Pg Gl) (fnQ (RetQ [.cell 4 true 4,.tmp 5,.tmp 6] r S)) [.lp c25_l2,.blk 2,.c c25_k3] (stF 160 D τ ω S) := by
 intro f
 induction f with
 | zero => intro k L rs τ ω h; cases h
 | succ f ih =>
  intro k L rs τ ω hd hk hL hrs hF
  refine RunW_lpE c25_l2.eq_1 ?_
  obtain ⟨t4,t7,t10,t11,t16,t17,w4,w9,w10,w32,w16⟩ := hF
  rw [detR] at hd
  have w10' := w10
  unfold lsB at w10'
  refine .seq (.seq (RunW_pre (k1 := [_]) ?_))
  simp [t17,t10,w10']
  cases hx : L[k]? with
  | none =>
   rw [hx] at hd
   injection hd with hd
   have hkl : ¬ k < L.length := fun h => by rw [List.getElem?_eq_getElem h] at hx; cases hx
   refine ⟨rfl,.cond (t := false) (by simp [hkl]) (.exit (k' := [.c c25_k3]) (by simp) ?_)⟩
   refine hgo L rs hd.symm (by omega) _ _ ?_ ?_ ?_ w4 w10 w16
   all_goals simp [t4,t10,t16]
  | some x =>
   rw [hx] at hd
   simp only at hd
   have hkl : k < L.length := (List.getElem?_eq_some_iff.1 hx).1
   have hxe : L[k] = x := (List.getElem?_eq_some_iff.1 hx).2
   refine ⟨rfl,.cond (t := true) (by simp [hkl]) (.skip (.seq (.block (.seq (.seq (RunW_pre (k1 := [_]) ?_))))))⟩
   simp [t17]
   by_cases h100 : k = 100
   ·rw [if_pos h100] at hd
    injection hd with hd
    have hr := hfin hd.symm
    have hk1 : ((k : Int) = 100) := by omega
    refine ⟨rfl,.cond (t := true) (by simp [hk1]) (Rd.run (own := .im) ?_)⟩
    simp [t4,w4,hr,rDet,zeroY]
   ·rw [if_neg h100] at hd
    have hk1 : ¬ ((k : Int) = 100) := by omega
    refine ⟨rfl,.cond (t := false) (by simp [hk1]) (.skip (.seq (RunW_pre (k1 := [_]) ?_)))⟩
    simp
    have rest : ∀ (g18 g76 : Nat) (τ1 : Nat → AV) (ω1 : Nat → Ent),F25 D A k τ1 ω1 L (e16 A rs) → V25 D g18 g76 (if endsB A.F x then 1 else 0) τ1 ω1 [] →
      RunW (Loc Pg Gl) (fnQ (RetQ [.cell 4 true 4,.tmp 5,.tmp 6] r S)) [.c c25_j0,.blk 3,.c c25_k1,.lp c25_l2,.blk 2,.c c25_k3] (stF 160 D τ1 ω1 S) := by
     intro g18 g76 τ1 ω1 hF1 hV1
     unfold c25_j0
     have q7 := hF1.t7
     refine .seq (.seq (RunW_pre (k1 := [_]) ?_))
     simp [q7,encA]
     refine ⟨rfl,.block (RunW_loop ?_)⟩
     refine l25_1 D A hn hk4 hrows hw k x (e16 A rs) g18 g76 (if endsB A.F x then 1 else 0) _ _ S A.k 0 L [] _ _ (by omega) hx (by omega) (by simp; omega) ?_ ?_ ?_ ?_ ?_
     case refine_5 =>
      intro τ2 ω2 hF2 hV2
      have hstep : stepD A x A.k 0 (L,[]) = stepK A x L := rfl
      rw [hstep] at hF2 hV2
      have hlen := stepD_len A x A.k 0 (L,[])
      rw [hstep] at hlen
      simp only at hlen
      generalize stepK A x L = st at hd hF2 hV2 hlen
      obtain ⟨L2,r2⟩ := st
      simp only at hd hF2 hV2 hlen
      obtain ⟨u4,u7,u10,u11,u16,u17,v4,v9,v10,v32,v16⟩ := hF2
      obtain ⟨u18,v18,v76⟩ := hV2
      have hfz : ∀ τ' e,frz (stF 160 D τ' (upd ω2 16 e) S) frzD (.agg [.int .i64 0,.own D 76 g76 0 2 3 true,.sl 1 [] .no]) = some (encV (mkDet (endsB A.F x,r2)),killsD D r2) := by
       intro τ' e
       refine frz_D (τ := τ2) (g18 := g18) ⟨u18,by simp [v18],?_⟩ τ'
       obtain ⟨g,q1,q2⟩ := v76
       exact ⟨g,by simp [q1],fun h => by obtain ⟨cs,q3,q4⟩ := q2 h; exact ⟨cs,by simp [q3],q4⟩⟩
      have fin : ∀ (τ3 : Nat → AV) (ω3 : Nat → Ent),τ3 4 = .ptr D 4 1 0 → τ3 7 = encA A → τ3 10 = .ptr D 10 1 0 → τ3 11 = .fn 67 [.ptr D 9 1 0,.ptr D 10 1 0] → τ3 16 = .ptr D 16 1 0 → τ3 17 = .int .i64 k →
        (∀ i,i ≠ 16 → i ≠ 76 → i ≠ 114 → ω3 i = ω2 i) → ω3 16 = e16 A (rs ++ [(endsB A.F x,r2)]) → RunW (Loc Pg Gl) (fnQ (RetQ [.cell 4 true 4,.tmp 5,.tmp 6] r S)) [.blk 3,.c c25_k1,.lp c25_l2,.blk 2,.c c25_k3] (stF 160 D τ3 ω3 S) := by
       intro τ3 ω3 a4 a7 a10 a11 a16 a17 hω h16
       have hwk : IntKind.i64.wrap ((k : Int) + 1) = ((k + 1 : Nat) : Int) := by rw [← wrap_i64_nat (n := k + 1) (by omega)]; rfl
       refine .blk (RunW_pre (k1 := [_]) ?_)
       unfold c25_k1
       simp [a17,hwk]
       refine ⟨rfl,ih (k + 1) L2 _ _ _ hd (by omega) (by omega) (by simp; omega) ⟨by simp [a4],by simp [a7],by simp [a10],by simp [a11],by simp [a16],by simp,?_,?_,?_,?_,h16⟩⟩
       ·rw [hω 4 (by decide) (by decide) (by decide)]; exact v4
       ·rw [hω 9 (by decide) (by decide) (by decide)]; exact v9
       ·rw [hω 10 (by decide) (by decide) (by decide)]; exact v10
       ·rw [hω 32 (by decide) (by decide) (by decide)]; exact v32
      refine RunW_pre (k1 := [_]) ?_
      unfold c25_k0
      unfold e16 at v16
      have hle : (rs.length + 1) * 56 ≤ 1099511627776 := by omega
      cases r2 with
      | nil =>
       simp [u16,v16,u18,v18,hfz,hle,killsD,-frzD_agg]
       refine ⟨rfl,fin _ _ ?_ ?_ ?_ ?_ ?_ ?_ (fun i h1 h2 h3 => ?_) ?_⟩
       case refine_7 => simp [upd,h1,h2,h3]
       case refine_8 => simp [e16]
       all_goals simp [*]
      | cons a r2 =>
       simp [u16,v16,u18,v18,hfz,hle,killsD,-frzD_agg]
       refine ⟨rfl,fin _ _ ?_ ?_ ?_ ?_ ?_ ?_ (fun i h1 h2 h3 => ?_) ?_⟩
       case refine_7 => simp [upd,h1,h2,h3]
       case refine_8 => simp [e16]
       all_goals simp [*]
     ·obtain ⟨u4,u7,u10,u11,u16,u17,v4,v9,v10,v32,v16⟩ := hF1
      constructor <;> simp [*,encA]
     ·obtain ⟨u18,v18,v76⟩ := hV1
      obtain ⟨g,q1,q2⟩ := v76
      exact ⟨by simp [u18],by simp [v18],g,by simp [q1],fun h => absurd rfl h⟩
     all_goals simp
    refine ⟨rfl,.seq (.seq (RunW_pre (k1 := [_]) ?_))⟩
    have s69 := spec69 (D + 1) A x
    simp [t7,t10,t17,w10',hkl,hxe,encS]
    refine Rd_call s69 (by simp [encS]) ?_
    simp
    refine ⟨rfl,.cond (t := endsB A.F x) (by simp) ?_⟩
    cases hb : endsB A.F x with
    | false =>
     rw [hb] at rest
     refine .skip (rest ((ω 18).1 + 1) ((ω 76).1 + 1) _ _ ?_ ?_)
     ·constructor <;> simp [*]
     ·refine ⟨by simp,by simp,0,by simp [argsA],by simp⟩
    | true =>
     rw [hb] at rest
     refine RunW_pre (k1 := [_]) ?_
     simp
     refine ⟨rfl,rest ((ω 18).1 + 1) ((ω 76).1 + 1) _ _ ?_ ?_⟩
     ·constructor <;> simp [*]
     ·refine ⟨by simp,by simp,0,by simp [argsA],by simp⟩
end Go.Ab.Tab
/- Determinizing: the program's Deterministic (25). -/
namespace Go.Ab.Tab
open Go Go.Ab
set_option maxRecDepth 10000
set_option linter.unusedVariables false
set_option linter.unusedSimpArgs false
theorem l25_3 (D : Nat) (A : PA) (rs : List (Bool × List Nat)) (L : List BS) (hL : L.length ≤ 5000) (S) (r : AV) (hr : r = rDet A.k (some (L,rs))) : ∀ (m i : Nat) (τ ω),i + m = L.length →
  τ 4 = .ptr D 4 1 0 → τ 16 = .ptr D 16 1 0 → τ 20 = .sl 1 ((L.take i).map fun x => .sl 1 (x.list.map encN) .no) .tip → τ 146 = .sl 2 (L.map encS) .no → τ 147 = .int .i64 L.length → τ 148 = .int .i64 i →
  ω 4 = (1,.cells [.int .i64 0,.int .i64 0,.sl 3 [] .tip,.sl 3 [] .tip]) → ω 16 = e16 A rs →
  Rd (Loc Pg Gl) .im (RetQ [.cell 4 true 4,.tmp 5,.tmp 6] r S) [.lp c25_l3,.blk 6,.c c25_k2] (stF 160 D τ ω S) := by
 intro m
 induction m with
 | zero =>
  intro i τ ω hi h4 h16 h20 h146 h147 h148 w4 w16
  refine Rd_lpE c25_l3.eq_1 ?_
  obtain rfl : i = L.length := by omega
  unfold e16 at w16
  rw [List.take_length] at h20
  simp [h4,h16,h20,h147,h148,w4,w16,c25_k2]
  rw [hr,rDet,encY,sysD]
  simp [encLN,namesL,Fu.k,Fu.n,Fu.gs,Function.comp_def]
 | succ m ih =>
  intro i τ ω hi h4 h16 h20 h146 h147 h148 w4 w16
  refine Rd_lpE c25_l3.eq_1 ?_
  have hlt : i < L.length := by omega
  have hwr : IntKind.i64.wrap ((i : Int) + 1) = ((i + 1 : Nat) : Int) := by rw [← wrap_i64_nat (n := i + 1) (by omega)]; rfl
  obtain ⟨x,hx⟩ : ∃ x,L[i] = x := ⟨_,rfl⟩
  have hle : ((L.take i).length + 1) * 24 ≤ 1099511627776 := by rw [List.length_take]; omega
  have htk : L.take (i + 1) = L.take i ++ [x] := by rw [List.take_succ_eq_append_getElem hlt,hx]
  have hmin : (min i L.length + 1) * 24 ≤ 1099511627776 := by omega
  simp [h20,h146,h147,h148,hlt,hx,encS]
  refine Rd_call (spec61 _ x) (by simp [encS]) ?_
  simp [h20,h148,hwr,hmin]
  refine ih (i + 1) _ _ (by omega) ?_ ?_ ?_ ?_ ?_ ?_ ?_ ?_
  all_goals simp [h4,h16,h146,h147,w4,w16,htk,hwr]
def addAll (n : Int) : List (List Int) → List BS → Option (List BS)
 | [],L => some L
 | l :: ls,L => if isSet n l then addAll n ls (addB L (toS l)).2 else none
theorem addAll_len (n : Int) : ∀ (ls : List (List Int)) (L L' : List BS),addAll n ls L = some L' → L'.length ≤ L.length + ls.length
 | [],L,L',h => by injection h with h; subst h; simp
 | l :: ls,L,L',h => by
  rw [addAll] at h
  split at h
  ·have h1 := addAll_len n ls _ L' h
   have h2 : (addB L (toS l)).2.length ≤ L.length + 1 := by unfold addB; split <;> simp
   rw [List.length_cons]; omega
  ·cases h
def errDet (c : Int) : AV := .tup [zeroY,.sl 1 [] .no,.int .i64 c]
theorem l25_0 (D : Nat) (A : PA) (hn : A.n ≤ 100) (sets : List (List Int)) (hs : sets.length ≤ 1000) (hsl : ∀ l ∈ sets,l.length ≤ maxLen) (S) (r : AV) : ∀ (m i : Nat) (L : List BS) (τ ω),i + m = sets.length → L.length ≤ i →
  τ 4 = .ptr D 4 1 0 → τ 7 = encA A → τ 10 = .ptr D 10 1 0 → τ 11 = .fn 67 [.ptr D 9 1 0,.ptr D 10 1 0] → τ 34 = encLs sets → τ 35 = .int .i64 sets.length → τ 36 = .int .i64 i →
  ω 4 = (1,.cells [.int .i64 0,.int .i64 0,.sl 3 [] .tip,.sl 3 [] .tip]) → ω 9 = (1,.cells [.mp D 32 1]) → ω 10 = lsB L → ω 32 = mpB L → ω 16 = (0,.dead) →
  (addAll A.n (sets.drop i) L = none → r = errDet 1) →
  (∀ L',addAll A.n (sets.drop i) L = some L' → ∀ τ' ω',τ' 4 = .ptr D 4 1 0 → τ' 7 = encA A → τ' 10 = .ptr D 10 1 0 → τ' 11 = .fn 67 [.ptr D 9 1 0,.ptr D 10 1 0] →
   ω' 4 = (1,.cells [.int .i64 0,.int .i64 0,.sl 3 [] .tip,.sl 3 [] .tip]) → ω' 9 = (1,.cells [.mp D 32 1]) → ω' 10 = lsB L' → ω' 32 = mpB L' → ω' 16 = (0,.dead) →
   RunW (Loc Pg Gl) (fnQ (RetQ [.cell 4 true 4,.tmp 5,.tmp 6] r S)) [.c c25_k4] (stF 160 D τ' ω' S)) →
  RunW (Loc Pg Gl) (fnQ (RetQ [.cell 4 true 4,.tmp 5,.tmp 6] r S)) [.lp c25_l0,.blk 0,.c c25_k4] (stF 160 D τ ω S) := by
 intro m
 induction m with
 | zero =>
  intro i L τ ω hi hLi h4 h7 h10 h11 h34 h35 h36 w4 w9 w10 w32 w16 hno hend
  refine RunW_lpE c25_l0.eq_1 ?_
  obtain rfl : i = sets.length := by omega
  refine .seq (RunW_pre (k1 := [_]) ?_)
  simp [h35,h36]
  refine ⟨rfl,.seq (.cond (t := false) (by simp) (.exit (k' := [.c c25_k4]) (by simp) ?_))⟩
  rw [List.drop_length,addAll] at hend
  refine hend L rfl _ _ ?_ ?_ ?_ ?_ w4 w9 w10 w32 w16
  all_goals simp [*]
 | succ m ih =>
  intro i L τ ω hi hLi h4 h7 h10 h11 h34 h35 h36 w4 w9 w10 w32 w16 hno hend
  refine RunW_lpE c25_l0.eq_1 ?_
  have hlt : i < sets.length := by omega
  have hwr : IntKind.i64.wrap ((i : Int) + 1) = ((i + 1 : Nat) : Int) := by rw [← wrap_i64_nat (n := i + 1) (by omega)]; rfl
  obtain ⟨x,hx⟩ : ∃ x,sets[i] = x := ⟨_,rfl⟩
  have hxl := hsl x (by rw [← hx]; exact List.getElem_mem hlt)
  have s68 := spec68 (D + 1) A.n (by omega) x hxl
  rw [List.drop_eq_getElem_cons hlt,hx,addAll] at hno hend
  refine .seq (RunW_pre (k1 := [_]) ?_)
  simp [h35,h36]
  refine ⟨rfl,.seq (.cond (t := true) (by simp; exact hlt) (.skip (.seq (.block (.seq (RunW_pre (k1 := [_]) ?_))))))⟩
  simp [h34,h36,encLs,hlt,hx,encI_left]
  refine ⟨rfl,.seq (RunW_pre (k1 := [_]) ?_)⟩
  simp [h7,encA,encI_left]
  refine Rd_call s68 (by simp) ?_
  cases hok : isSet A.n x with
  | false =>
   rw [hok] at hno
   simp only [Bool.false_eq_true,if_false] at hno
   have hr := hno trivial
   simp [rOf,encS]
   refine ⟨rfl,.seq (.seq (RunW_pre (k1 := [_]) ?_))⟩
   simp
   refine ⟨rfl,.cond (t := true) (by simp) (Rd.run (own := .im) ?_)⟩
   simp [h4,w4,hr,errDet,zeroY]
  | true =>
   rw [hok] at hno hend
   simp only [if_true] at hno hend
   simp [rOf,encS]
   refine ⟨rfl,.seq (.seq (RunW_pre (k1 := [_]) ?_))⟩
   simp
   refine ⟨rfl,.cond (t := false) (by simp) (.skip (RunW_pre (k1 := [_,_,_]) ?_))⟩
   have s67 := spec67 D L (by omega) (toS x)
   simp [h11]
   refine Rd_callvM (cap := [.ptr D 9 1 0,.ptr D 10 1 0]) s67 (by simp) (by simp [encS]) (by simp [mem67,w9,w10,w32,lsB]) (by simp [dl67,mem67,lsB,mpB]) ?_
   simp [dl67,encN,h36,hwr]
   have hll : (addB L (toS x)).2.length ≤ i + 1 := by unfold addB; split <;> simp <;> omega
   refine ⟨rfl,ih (i + 1) (addB L (toS x)).2 _ _ (by omega) hll ?_ ?_ ?_ ?_ ?_ ?_ ?_ ?_ ?_ ?_ ?_ ?_ hno hend⟩
   all_goals simp [h4,h7,h10,h11,h34,h35,w4,w9,w16,encA,hwr,encLs]
def detRes (A : PA) (sets : List (List Int)) (r : AV) : Prop :=
 match addAll A.n sets [] with
 | none => r = errDet 1
 | some L => ∃ res,detR A 102 0 L [] = some res ∧ r = rDet A.k res
theorem spec25_ok (D k : Nat) (ps : List (Bool × List (List Nat))) (hps : AuOk k ps) (hrl : ∀ p ∈ ps,∀ r ∈ p.2,r.length ≤ maxLen) (hY : isY (auY k ps) = true) (hv : ∀ v ∈ (auY k ps).m,fitV v) (hb : nodesVs (auY k ps).m ≤ 2 ^ 32)
  (hrows : (paOf k ps).rows.length = (paOf k ps).n) (hw : ∀ r ∈ (paOf k ps).rows,(paOf k ps).k ≤ r.length)
  (sets : List (List Int)) (hs : sets.length ≤ 1000) (hsl : ∀ l ∈ sets,l.length ≤ maxLen) (r : AV) (hr : detRes (paOf k ps) sets r) :
  Go.Ab.Loc Pg Gl D 25 [encY (auY k ps),encLs sets] [] r [] := by
 have hn := hps.len
 have hk4 := hps.kle
 have h66 := spec66_ok (D + 1) k ps hps hrl hY hv hb
 have hAn : (paOf k ps).n ≤ 100 := hn
 have hAk : (paOf k ps).k ≤ 4 := hk4
 generalize hA : paOf k ps = A at *
 rw [encY_au] at h66 ⊢
 obtain ⟨fn,code,t1,t2,t3,t4,t5,t6⟩ := tok 25 _ rfl
 refine loc_of_run (L := Lx) mixedP t1 t2 t3 t4 t5 fun S hS => ?_
 rw [t6,start_stF _ _ _ _ (by simp)]
 refine RunW.imp (Q := fnQ (RetQ [.cell 4 true 4,.tmp 5,.tmp 6] r S)) (fun w s' h => by
  have hq : RetQ [.cell 4 true 4,.tmp 5,.tmp 6] r S s' → resV s' [.cell 4 true 4,.tmp 5,.tmp 6] = some r ∧ ∀ d i,d ≠ D → s'.S d i = upds S [] d i := fun h => ⟨h.1,fun d i hd => by rw [h.2]; rfl⟩
  cases w with
  | fall => exact hq h
  | ret => exact hq h
  | exit => exact h
  | stop => exact h) ?_
 unfold c25
 refine .seq (RunW_pre (k1 := [_]) ?_)
 simp
 refine ⟨rfl,.seq (RunW_pre (k1 := [_]) ?_)⟩
 simp
 refine Rd_call h66 (by simp) ?_
 simp
 refine ⟨rfl,.seq (.seq (RunW_pre (k1 := [_]) ?_))⟩
 simp
 refine ⟨rfl,.cond (t := false) (by simp) (.skip (.seq (RunW_pre (k1 := [_]) ?_)))⟩
 simp
 refine ⟨rfl,.seq (RunW_pre (k1 := [_]) ?_)⟩
 simp
 refine ⟨rfl,.seq (RunW_pre (k1 := [_]) ?_)⟩
 simp
 refine ⟨rfl,.seq (.seq (RunW_pre (k1 := [_]) ?_))⟩
 simp [encLs]
 refine ⟨rfl,.block (RunW_loop ?_)⟩
 unfold detRes at hr
 refine l25_0 D A hAn sets hs hsl S r sets.length 0 [] _ _ (by omega) (by simp) ?_ ?_ ?_ ?_ ?_ ?_ ?_ ?_ ?_ ?_ ?_ ?_ ?_ ?_
 case refine_13 => intro h; rw [List.drop_zero] at h; rw [h] at hr; exact hr
 case refine_14 =>
  intro L' hL' τ1 ω1 a4 a7 a10 a11 v4 v9 v10 v32 v16
  rw [List.drop_zero] at hL'
  rw [hL'] at hr
  obtain ⟨res,hdr,hre⟩ := hr
  have hLl := addAll_len _ _ _ _ hL'
  simp only [List.length_nil,Nat.zero_add] at hLl
  unfold c25_k4
  refine .seq (RunW_pre (k1 := [_]) ?_)
  simp [a7,encA,v16]
  refine ⟨rfl,.seq (.seq (RunW_pre (k1 := [_]) ?_))⟩
  simp
  refine ⟨rfl,.block (RunW_loop ?_)⟩
  refine l25_2 D A hAn hAk hrows hw S r res (fun h => by rw [hre,h]) ?_ 102 0 L' [] _ _ hdr (by omega) (by omega) (by simp) ?_
  ·intro L rs hres hLL τ2 ω2 b4 b10 b16 u4 u10 u16
   subst hres
   unfold c25_k3
   unfold lsB at u10
   refine Rd.run (own := .im) ?_
   simp [b10,u10]
   refine l25_3 D A rs L hLL S r hre L.length 0 _ _ (by omega) ?_ ?_ ?_ ?_ ?_ ?_ u4 u16
   all_goals simp [b4,b16]
  ·refine ⟨by simp [a4],by simp [a7,encA],by simp [a10],by simp [a11],by simp,by simp,by simp [v4],by simp [v9],by simp [v10],by simp [v32],?_⟩
   simp [e16,gsD,encF_mk]
   done
 all_goals simp [encLs,lsB,mpB,entsM]
end Go.Ab.Tab
/- The program's given (88),Letters (46),Word (51),errors of Deterministic. -/
namespace Go.Ab.Tab
open Go Go.Ab
set_option maxRecDepth 10000
set_option linter.unusedVariables false
set_option linter.unusedSimpArgs false
theorem spec46_bad (D : Nat) (s : Sy) (hf : fitF s.f) (hl : s.m.length ≤ maxLen) (hv : ∀ v ∈ s.m,fitV v) (hb : nodesVs s.m ≤ 2 ^ 32) (h : isY s = false ∨ lettersF s.f = 0) :
  Go.Ab.Loc Pg Gl D 46 [encY s] [] (.tup [.int .i64 0,.int .i64 (if isY s then 1 else 30)]) [] := by
 refine loc_rd mixedP tok rfl rfl fun S => ?_
 unfold c46
 have h66 := spec66_bad (D + 1) s hf hl hv hb h
 have hne : (if isY s then (1 : Int) else 30) ≠ 0 := by split <;> decide
 generalize (if isY s then (1 : Int) else 30) = c at h66 hne ⊢
 rw [encY] at h66 ⊢
 simp
 refine Rd_call h66 (by simp) ?_
 simp [hne]
theorem spec46_ok (D k : Nat) (ps : List (Bool × List (List Nat))) (hps : AuOk k ps) (hrl : ∀ p ∈ ps,∀ r ∈ p.2,r.length ≤ maxLen) (hY : isY (auY k ps) = true) (hv : ∀ v ∈ (auY k ps).m,fitV v) (hb : nodesVs (auY k ps).m ≤ 2 ^ 32) :
  Go.Ab.Loc Pg Gl D 46 [encY (auY k ps)] [] (.tup [.int .i64 k,.int .i64 0]) [] := by
 refine loc_rd mixedP tok rfl rfl fun S => ?_
 unfold c46
 have h66 := spec66_ok (D + 1) k ps hps hrl hY hv hb
 have hk : (paOf k ps).k = k := rfl
 rw [encY_au] at h66 ⊢
 unfold encA at h66
 rw [hk] at h66
 simp
 refine Rd_call h66 (by simp) ?_
 simp
def zS : AV := encS (0#64,0#64)
theorem spec88_bad (D : Nat) (s : Sy) (hf : fitF s.f) (hl : s.m.length ≤ maxLen) (hv : ∀ v ∈ s.m,fitV v) (hb : nodesVs s.m ≤ 2 ^ 32) (h : isY s = false ∨ lettersF s.f = 0) (x : AV) :
  Go.Ab.Loc Pg Gl D 88 [encY s,x] [] (.tup [.nilp,zS,.int .i64 (if isY s then 1 else 30)]) [] := by
 refine loc_rd mixedP tok rfl rfl fun S => ?_
 unfold c88
 have h66 := spec66_bad (D + 1) s hf hl hv hb h
 have hne : (if isY s then (1 : Int) else 30) ≠ 0 := by split <;> decide
 generalize (if isY s then (1 : Int) else 30) = c at h66 hne ⊢
 generalize hr : AV.tup [.nilp,zS,.int .i64 c] = r
 rw [encY] at h66 ⊢
 simp
 refine Rd_call h66 (by simp) ?_
 simp [hne]
 simp [← hr,zS,encS]
theorem spec88_ok (D k : Nat) (ps : List (Bool × List (List Nat))) (hps : AuOk k ps) (hrl : ∀ p ∈ ps,∀ r ∈ p.2,r.length ≤ maxLen) (hY : isY (auY k ps) = true) (hv : ∀ v ∈ (auY k ps).m,fitV v) (hb : nodesVs (auY k ps).m ≤ 2 ^ 32) (l : List Int) (hl : l.length ≤ maxLen) :
  Go.Ab.Loc Pg Gl D 88 [encY (auY k ps),encI l] [] (if isSet ps.length l then .tup [encA (paOf k ps),encS (toS l),.int .i64 0] else .tup [.nilp,zS,.int .i64 1]) [] := by
 have hn := hps.len
 refine loc_rd mixedP tok rfl rfl fun S => ?_
 unfold c88
 have h66 := spec66_ok (D + 1) k ps hps hrl hY hv hb
 have h68 := spec68 (D + 1) ps.length (by omega) l hl
 have hA2 : encA (paOf k ps) = .box [.int .i64 ps.length,.int .i64 k,.int .u64 (paOf k ps).F.1.toNat,.int .u64 (paOf k ps).F.2.toNat,.sl 1 ((paOf k ps).rows.map fun r => .sl 2 (r.map encS) .no) .no] 0 := rfl
 generalize hr : (if isSet ps.length l then AV.tup [encA (paOf k ps),encS (toS l),.int .i64 0] else .tup [.nilp,zS,.int .i64 1]) = r
 rw [hA2] at hr h66
 rw [encY_au] at h66 ⊢
 simp
 refine Rd_call h66 (by simp) ?_
 simp [encI_left]
 refine Rd_call h68 (by simp) ?_
 cases hok : isSet ps.length l with
 | false =>
  rw [hok,if_neg (by simp)] at hr
  simp [rOf,encS]
  simp [← hr,zS,encS]
 | true =>
  rw [hok,if_pos rfl] at hr
  simp [rOf,encS]
  simp [← hr,encS]
end Go.Ab.Tab
/- The program's Accepts (41),Next (47),Word (51). -/
namespace Go.Ab.Tab
open Go Go.Ab
set_option maxRecDepth 10000
set_option linter.unusedVariables false
set_option linter.unusedSimpArgs false
theorem spec41_bad (D : Nat) (s : Sy) (hf : fitF s.f) (hl : s.m.length ≤ maxLen) (hv : ∀ v ∈ s.m,fitV v) (hb : nodesVs s.m ≤ 2 ^ 32) (h : isY s = false ∨ lettersF s.f = 0) (l w : List Int) :
  Go.Ab.Loc Pg Gl D 41 [encY s,encI l,encI w] [] (.tup [.bool false,.int .i64 (if isY s then 1 else 30)]) [] := by
 refine loc_rd mixedP tok rfl rfl fun S => ?_
 unfold c41
 have h88 := spec88_bad (D + 1) s hf hl hv hb h (encI l)
 have hne : (if isY s then (1 : Int) else 30) ≠ 0 := by split <;> decide
 generalize (if isY s then (1 : Int) else 30) = c at h88 hne ⊢
 unfold zS at h88
 rw [encY] at h88 ⊢
 simp [encI_left]
 refine Rd_call h88 (by simp) ?_
 simp [encS,hne]
theorem spec41_ok (D k : Nat) (ps : List (Bool × List (List Nat))) (hps : AuOk k ps) (hrl : ∀ p ∈ ps,∀ r ∈ p.2,r.length ≤ maxLen) (hY : isY (auY k ps) = true) (hv : ∀ v ∈ (auY k ps).m,fitV v) (hb : nodesVs (auY k ps).m ≤ 2 ^ 32)
  (hrows : (paOf k ps).rows.length = (paOf k ps).n) (hw : ∀ r ∈ (paOf k ps).rows,(paOf k ps).k ≤ r.length) (l w : List Int) (hl : l.length ≤ maxLen) (hwl : w.length ≤ maxLen) :
  Go.Ab.Loc Pg Gl D 41 [encY (auY k ps),encI l,encI w] [] (if isSet ps.length l && wordOk k w then .tup [.bool (endsB (paOf k ps).F (runB (paOf k ps) (toS l) w)),.int .i64 0] else .tup [.bool false,.int .i64 1]) [] := by
 refine loc_rd mixedP tok rfl rfl fun S => ?_
 unfold c41
 have h88 := spec88_ok (D + 1) k ps hps hrl hY hv hb l hl
 have h85 := spec85 (D + 1) (paOf k ps) hps.len hps.kle hrows hw (toS l) w hwl
 have h69 := spec69 (D + 1) (paOf k ps) (runB (paOf k ps) (toS l) w)
 have hk : (paOf k ps).k = k := rfl
 rw [rRun,hk] at h85
 generalize hr : (if isSet ps.length l && wordOk k w then AV.tup [.bool (endsB (paOf k ps).F (runB (paOf k ps) (toS l) w)),.int .i64 0] else .tup [.bool false,.int .i64 1]) = r
 generalize paOf k ps = A at *
 rw [encY_au] at h88 ⊢
 simp [encI_left]
 refine Rd_call h88 (by simp) ?_
 cases hok : isSet ps.length l with
 | false =>
  rw [hok,Bool.false_and,if_neg (by simp)] at hr
  simp [zS,encS]
  simp [← hr]
 | true =>
  rw [hok,Bool.true_and] at hr
  simp [encS]
  refine Rd_call h85 (by simp [encS]) ?_
  cases hwo : wordOk k w with
  | false =>
   rw [hwo,if_neg (by simp)] at hr
   simp [encS]
   simp [← hr]
  | true =>
   rw [hwo,if_pos rfl] at hr
   simp [encS]
   refine Rd_call h69 (by simp [encS]) ?_
   simp [← hr]
theorem spec47_bad (D : Nat) (s : Sy) (hf : fitF s.f) (hl : s.m.length ≤ maxLen) (hv : ∀ v ∈ s.m,fitV v) (hb : nodesVs s.m ≤ 2 ^ 32) (h : isY s = false ∨ lettersF s.f = 0) (l : List Int) (a : Int) :
  Go.Ab.Loc Pg Gl D 47 [encY s,encI l,.int .i64 a] [] (.tup [.sl 1 [] .no,.int .i64 (if isY s then 1 else 30)]) [] := by
 refine loc_rd mixedP tok rfl rfl fun S => ?_
 unfold c47
 have h88 := spec88_bad (D + 1) s hf hl hv hb h (encI l)
 have hne : (if isY s then (1 : Int) else 30) ≠ 0 := by split <;> decide
 generalize (if isY s then (1 : Int) else 30) = c at h88 hne ⊢
 unfold zS at h88
 rw [encY] at h88 ⊢
 simp [encI_left]
 refine Rd_call h88 (by simp) ?_
 simp [encS,hne]
theorem spec47_ok (D k : Nat) (ps : List (Bool × List (List Nat))) (hps : AuOk k ps) (hrl : ∀ p ∈ ps,∀ r ∈ p.2,r.length ≤ maxLen) (hY : isY (auY k ps) = true) (hv : ∀ v ∈ (auY k ps).m,fitV v) (hb : nodesVs (auY k ps).m ≤ 2 ^ 32)
  (hrows : (paOf k ps).rows.length = (paOf k ps).n) (hw : ∀ r ∈ (paOf k ps).rows,(paOf k ps).k ≤ r.length) (l : List Int) (a : Int) (hl : l.length ≤ maxLen) :
  Go.Ab.Loc Pg Gl D 47 [encY (auY k ps),encI l,.int .i64 a] [] (if isSet ps.length l && wordOk k [a] then .tup [.sl 1 ((runB (paOf k ps) (toS l) [a]).list.map encN) .no,.int .i64 0] else .tup [.sl 1 [] .no,.int .i64 1]) [] := by
 refine loc_rd mixedP tok rfl rfl fun S => ?_
 unfold c47
 have h88 := spec88_ok (D + 1) k ps hps hrl hY hv hb l hl
 have h85 := spec85 (D + 1) (paOf k ps) hps.len hps.kle hrows hw (toS l) [a] (by simp [maxLen])
 have h61 := spec61 (D + 1) (runB (paOf k ps) (toS l) [a])
 have hk : (paOf k ps).k = k := rfl
 rw [rRun,hk] at h85
 generalize hr : (if isSet ps.length l && wordOk k [a] then AV.tup [.sl 1 ((runB (paOf k ps) (toS l) [a]).list.map encN) .no,.int .i64 0] else .tup [.sl 1 [] .no,.int .i64 1]) = r
 generalize paOf k ps = A at *
 rw [encY_au] at h88 ⊢
 simp [encI_left]
 refine Rd_call h88 (by simp) ?_
 cases hok : isSet ps.length l with
 | false =>
  rw [hok,Bool.false_and,if_neg (by simp)] at hr
  simp [zS,encS]
  simp [← hr]
 | true =>
  rw [hok,Bool.true_and] at hr
  simp [encS]
  refine Rd_call h85 (by simp [encS,encI]) ?_
  cases hwo : wordOk k [a] with
  | false =>
   rw [hwo,if_neg (by simp)] at hr
   simp [encS]
   simp [← hr]
  | true =>
   rw [hwo,if_pos rfl] at hr
   simp [encS]
   refine Rd_call h61 (by simp [encS]) ?_
   simp [← hr]
theorem spec51_bad (D : Nat) (s : Sy) (hf : fitF s.f) (hl : s.m.length ≤ maxLen) (hv : ∀ v ∈ s.m,fitV v) (hb : nodesVs s.m ≤ 2 ^ 32) (h : isY s = false ∨ lettersF s.f = 0) (l : List Int) :
  Go.Ab.Loc Pg Gl D 51 [encY s,encI l] [] (.tup [.sl 1 [] .no,.bool false,.int .i64 (if isY s then 1 else 30)]) [] := by
 refine loc_rd mixedP tok rfl rfl fun S => ?_
 unfold c51
 have h88 := spec88_bad (D + 1) s hf hl hv hb h (encI l)
 have hne : (if isY s then (1 : Int) else 30) ≠ 0 := by split <;> decide
 generalize (if isY s then (1 : Int) else 30) = c at h88 hne ⊢
 unfold zS at h88
 rw [encY] at h88 ⊢
 simp [encI_left]
 refine Rd_call h88 (by simp) ?_
 simp [encS,hne]
def rWord : Option (List Nat) → AV
 | none => .tup [.sl 1 [] .no,.bool false,.int .i64 0]
 | some w => .tup [.sl 1 (w.map encN) .no,.bool true,.int .i64 0]
theorem spec51_ok (D k : Nat) (ps : List (Bool × List (List Nat))) (hps : AuOk k ps) (hrl : ∀ p ∈ ps,∀ r ∈ p.2,r.length ≤ maxLen) (hY : isY (auY k ps) = true) (hv : ∀ v ∈ (auY k ps).m,fitV v) (hb : nodesVs (auY k ps).m ≤ 2 ^ 32) (l : List Int) (hl : l.length ≤ maxLen)
  (o : Option (List Nat)) (h92 : isSet ps.length l = true → Go.Ab.Loc Pg Gl (D + 1) 92 [encA (paOf k ps),encS (toS l)] [] (rLeast o) []) :
  Go.Ab.Loc Pg Gl D 51 [encY (auY k ps),encI l] [] (if isSet ps.length l then rWord o else .tup [.sl 1 [] .no,.bool false,.int .i64 1]) [] := by
 refine loc_rd mixedP tok rfl rfl fun S => ?_
 unfold c51
 have h88 := spec88_ok (D + 1) k ps hps hrl hY hv hb l hl
 generalize paOf k ps = A at *
 rw [encY_au] at h88 ⊢
 generalize hr : (if isSet ps.length l then rWord o else AV.tup [.sl 1 [] .no,.bool false,.int .i64 1]) = r
 simp [encI_left]
 refine Rd_call h88 (by simp) ?_
 cases hok : isSet ps.length l with
 | false =>
  rw [hok,if_neg (by simp)] at hr
  simp [zS,encS]
  simp [← hr]
 | true =>
  rw [hok,if_pos rfl] at hr
  have h92 := h92 hok
  simp [encS]
  refine Rd_call h92 (by simp [encS]) ?_
  cases o with
  | none => simp [rLeast]; simp [← hr,rWord]
  | some w => simp [rLeast]; simp [← hr,rWord]
end Go.Ab.Tab
/- The fixed calls (24). -/
namespace Go.Ab.Tab
open Go Go.Ab
set_option maxRecDepth 10000
set_option linter.unusedVariables false
set_option linter.unusedSimpArgs false
def ps0 : List (Bool × List (List Nat)) := [(false,[[0,1]]),(true,[[]])]
theorem ps0_is : isY (auY 1 ps0) = true := by kernel_rfl
theorem ps0_ok : AuOk 1 ps0 := ⟨by omega,by omega,by decide,by decide⟩
theorem ps0_det : addAll (paOf 1 ps0).n [[0]] [] = some [(1#64,0#64)] := by kernel_rfl
theorem ps0_detR : detR (paOf 1 ps0) 102 0 [(1#64,0#64)] [] = some (some ([(1#64,0#64),(3#64,0#64)],[(false,[1]),(true,[1])])) := by kernel_rfl
theorem ps0_bfs : bfs (paOf 1 ps0) 10 0 (toS [0],(toS [0]).list.map met0) = some (some 1,[(0,-1,0),(1,0,0)]) := by kernel_rfl
theorem paOf_rl (k : Nat) (ps : List (Bool × List (List Nat))) : (paOf k ps).rows.length = (paOf k ps).n := by simp [paOf]
theorem paOf_w {k : Nat} {ps : List (Bool × List (List Nat))} (hps : AuOk k ps) : ∀ r ∈ (paOf k ps).rows,r.length = k := by
 intro r hr
 simp only [paOf] at hr
 obtain ⟨p,hp,rfl⟩ := List.mem_map.1 hr
 rw [List.length_map]
 exact (hps.row p hp).1
theorem mem_list {s : BS} {y : Nat} : y ∈ s.list ↔ s.has y = true := by
 unfold BS.list
 rw [List.mem_filter,List.mem_range]
 exact ⟨fun h => h.2,fun h => ⟨has_lt h,h⟩⟩
theorem rowA_lt {k : Nat} {ps : List (Bool × List (List Nat))} (hps : AuOk k ps) : ∀ x l,∀ y ∈ (rowA (paOf k ps) x l).list,y < (paOf k ps).n := by
 intro x l y hy
 have hy := mem_list.1 hy
 have e : rowA (paOf k ps) x l = toN (rowN ps x l) := cellA_paOf k ps x l
 rw [e] at hy
 have hlt := has_lt hy
 have hr : ∀ z ∈ rowN ps x l,z < ps.length := by
  intro z hz
  unfold rowN at hz
  cases hp : ps[x]? with
  | none => rw [hp] at hz; simp at hz
  | some p =>
   rw [hp] at hz
   simp only [Option.map_some,Option.getD_some] at hz
   cases hq : p.2[l]? with
   | none => rw [hq] at hz; simp at hz
   | some r =>
    rw [hq] at hz
    exact (hps.row p (mem_of_get hp)).2 r (mem_of_get hq) z hz
 rw [has_toN hlt (fun z hz => by have := hr z hz; have := hps.len; omega)] at hy
 exact hr y (by simpa using hy)
theorem toS_lt {n : Nat} (hn : n ≤ 128) {l : List Int} (hl : Below n l) : ∀ y ∈ (toS l).list,y < n := by
 intro y hy
 have hy := mem_list.1 hy
 rw [has_toS hn hl (has_lt hy)] at hy
 have := hl _ (of_decide_eq_true hy)
 omega
theorem spec65 (D : Nat) : Go.Ab.Loc Pg Gl D 65 [] [] (encY (auY 1 ps0)) [] := by
 refine loc_rd mixedP tok rfl rfl fun S => ?_
 unfold c65
 have h90 := spec90 (D + 1) 1
 have htyp : encF (typ 1) = .agg [.int .i64 2,.int .i64 0,.sl 3 ([.mk 1 2 [],.mk 4 (1 : Nat) [.mk 5 0 [.mk 0 0 []]]].map encF) .no] := by unfold typ; rw [encF_mk]
 rw [htyp] at h90
 generalize hr : encY (auY 1 ps0) = r
 rw [encY_au] at hr
 simp
 refine Rd_drCall h90 (by simp) ?_
 simp [apartB]
 simp [← hr,ps0,encV_au,mkRow,encV_mk,encV_st]
 done
theorem ps0_rl : ∀ p ∈ ps0,∀ r ∈ p.2,r.length ≤ maxLen := by
 intro p hp r hr
 simp only [ps0,List.mem_cons,List.mem_nil_iff,or_false] at hp
 rcases hp with rfl | rfl
 ·simp only [List.mem_cons,List.mem_nil_iff,or_false] at hr
  subst hr; unfold maxLen; decide
 ·simp only [List.mem_cons,List.mem_nil_iff,or_false] at hr
  subst hr; unfold maxLen; decide
theorem ps0_fit : ∀ v ∈ (auY 1 ps0).m,fitV v := by
 intro v hv
 simp only [auY,ps0,List.map_cons,List.map_nil,List.mem_cons,List.mem_nil_iff,or_false] at hv
 rcases hv with rfl | rfl <;> simp [mkAu,mkRow,mkOut,mkSt,fitV,fitVs,maxLen]
theorem ps0_nodes : nodesVs (auY 1 ps0).m ≤ 2 ^ 32 := Nat.le_of_ble_eq_true (by kernel_rfl)
theorem bad_fit : fitF (.mk (-1) 0 []) := by simp [fitF,fitFs,maxLen]
theorem bad_is : isY ⟨.mk (-1) 0 [],[]⟩ = false := by kernel_rfl
theorem ps0_least : leastR (paOf 1 ps0) (toS [0]) (some 1,[(0,-1,0),(1,0,0)]) = some [0] := by kernel_rfl
theorem ps0_names : namesL [(1#64,0#64),(3#64,0#64)] = [[0],[0,1]] := by kernel_rfl
theorem ps0_set : isSet ps0.length [0] = true := by kernel_rfl
theorem spec24 (D : Nat) : Go.Ab.Loc Pg Gl D 24 [] [] (.bool true) [] := by
 refine loc_rd mixedP tok rfl rfl fun S => ?_
 unfold c24
 have hw : ∀ r ∈ (paOf 1 ps0).rows,(paOf 1 ps0).k ≤ r.length := fun r hr => by rw [paOf_w ps0_ok r hr]; exact Nat.le_refl _
 have h25 := spec25_ok (D + 1) 1 ps0 ps0_ok ps0_rl ps0_is ps0_fit ps0_nodes (paOf_rl 1 ps0) hw [[0]] (by simp) (by simp [maxLen])
  (rDet 1 (some ([(1#64,0#64),(3#64,0#64)],[(false,[1]),(true,[1])]))) (by unfold detRes; rw [ps0_det]; exact ⟨_,ps0_detR,rfl⟩)
 have h92 := fun (_ : isSet ps0.length [0] = true) => spec92 (D + 1 + 1) (paOf 1 ps0) (by show 2 ≤ 100; omega) (by show 1 ≤ 4; omega) (paOf_rl 1 ps0) hw (fun r hr => by rw [paOf_w ps0_ok r hr]; omega) (rowA_lt ps0_ok) (toS [0])
  (toS_lt (n := (paOf 1 ps0).n) (by show 2 ≤ 128; omega) (isSet_below ps0_set)) 10 (by omega) _ ps0_bfs (by intro k hk; injection hk with hk; subst hk; decide)
 rw [ps0_least] at h92
 have h51 := spec51_ok (D + 1) 1 ps0 ps0_ok ps0_rl ps0_is ps0_fit ps0_nodes [0] (by simp [maxLen]) (some [0]) h92
 rw [ps0_set,if_pos rfl,rWord] at h51
 have h46 := spec46_ok (D + 1) 1 ps0 ps0_ok ps0_rl ps0_is ps0_fit ps0_nodes
 have h46b := spec46_bad (D + 1) ⟨.mk (-1) 0 [],[]⟩ bad_fit (by simp) (by simp) (Nat.le_of_ble_eq_true (by kernel_rfl)) (.inl bad_is)
 rw [bad_is] at h46b
 have h29 := spec29 (D + 1) [[0],[0,1]] (by simp [maxLen]) (by simp [maxLen])
 have h19 := spec19 (D + 1) [0] [0] (by simp [maxLen])
 have h65 := spec65 (D + 1)
 rw [rDet,ps0_names] at h25
 have hD : encY (sysD 1 [(false,[1]),(true,[1])]) = .agg [.int .i64 2,.int .i64 0,.sl 3 ((gsD 1).map encF) .no,.sl 3 [encV (mkDet (false,[1])),encV (mkDet (true,[1]))] .no] := rfl
 rw [hD] at h25
 have hY : encY (auY 1 ps0) = .agg [.int .i64 2,.int .i64 0,.sl 3 ([.mk 1 2 [],.mk 4 (1 : Nat) [.mk 5 0 [.mk 0 0 []]]].map encF) .no,.sl 3 (ps0.map fun p => encV (mkAu p)) .no] := encY_au 1 ps0
 rw [hY] at h25 h51 h46 h65
 simp
 refine Rd_call h65 (by simp) ?_
 simp
 refine Rd_call h25 (by simp [encLs,encI]) ?_
 simp
 refine Rd_call h65 (by simp) ?_
 simp
 refine Rd_call h51 (by simp [encI]) ?_
 simp
 refine Rd_call h65 (by simp) ?_
 simp
 refine Rd_call h46 (by simp) ?_
 simp
 refine Rd_call h46b (by simp [encY,Fu.k,Fu.n,Fu.gs]) ?_
 simp [encLN]
 refine Rd_call h29 (by simp [encLs,encI,encN]) ?_
 simp
 refine Rd_call h19 (by simp [encI,encN]) ?_
 simp
end Go.Ab.Tab
/- The reference's Reached (73). -/
namespace Go.Ab.Tab
open Go Go.Ab
set_option maxRecDepth 10000
set_option linter.unusedVariables false
set_option linter.unusedSimpArgs false
abbrev Aut := List (Bool × List (List Nat))
def VSs (n : Nat) (all : List (List Int)) : Prop := ∀ l ∈ all,VS n l
theorem nx_vs {k : Nat} {ps : Aut} (hps : AuOk k ps) (a : Nat) (x : List Int) : VS ps.length (nx ps a x) := lN_vs hps.len _
end Go.Ab.Tab
/- The reference's Deterministic (28). -/
namespace Go.Ab.Tab
open Go Go.Ab
set_option maxRecDepth 10000
set_option linter.unusedVariables false
set_option linter.unusedSimpArgs false
@[simp] theorem encSt_one (x : Nat) : (encV (mkSt x)).one = false := by rw [encV_st]; rfl
end Go.Ab.Tab
/- Determinizing: the program's sets and the reference's. -/
namespace Go.Ab.Tab
open Go Go.Ab
set_option maxRecDepth 10000
set_option linter.unusedVariables false
set_option linter.unusedSimpArgs false
theorem isSetFrom_gt {n : Int} : ∀ {l : List Int} {y : Int},isSetFrom n (some y) l = true → ∀ x ∈ l,y < x
 | [],_,_,x,hx => by cases hx
 | z :: l,y,h,x,hx => by
  simp only [isSetFrom,prevOk,Bool.and_eq_true,decide_eq_true_eq] at h
  rcases List.mem_cons.1 hx with rfl | hx
  ·exact h.1.2
  ·have := isSetFrom_gt h.2 x hx; omega
theorem set_ext {n : Int} : ∀ {a b : List Int} {p q : Option Int},isSetFrom n p a = true → isSetFrom n q b = true → (∀ x,x ∈ a ↔ x ∈ b) → a = b
 | [],[],_,_,_,_,_ => rfl
 | [],y :: b,_,_,_,_,h => by have := (h y).2 (by simp); cases this
 | x :: a,[],_,_,_,_,h => by have := (h x).1 (by simp); cases this
 | x :: a,y :: b,p,q,ha,hb,h => by
  simp only [isSetFrom,Bool.and_eq_true] at ha hb
  have ga := isSetFrom_gt ha.2
  have gb := isSetFrom_gt hb.2
  have hxy : x = y := by
   rcases List.mem_cons.1 ((h x).1 (by simp)) with e | e
   ·exact e
   ·rcases List.mem_cons.1 ((h y).2 (by simp)) with e' | e'
    ·exact e'.symm
    ·have := gb x e; have := ga y e'; omega
  subst hxy
  rw [set_ext ha.2 hb.2 fun z => ?_]
  constructor
  ·intro hz
   rcases List.mem_cons.1 ((h z).1 (by simp [hz])) with e | e
   ·have := ga z hz; omega
   ·exact e
  ·intro hz
   rcases List.mem_cons.1 ((h z).2 (by simp [hz])) with e | e
   ·have := gb z hz; omega
   ·exact e
theorem toS_inj {n : Nat} {a b : List Int} (ha : VS n a) (hb : VS n b) (h : toS a = toS b) : a = b := by
 have hn := ha.nle
 refine set_ext (n := n) (p := none) (q := none) ha.is hb.is fun x => ?_
 have key : ∀ {l : List Int},VS n l → (x ∈ l ↔ (0 ≤ x ∧ x < n) ∧ (toS l).has x.toNat = true) := by
  intro l hl
  constructor
  ·intro hx
   have hr := hl.below x hx
   refine ⟨hr,?_⟩
   rw [has_toS (by omega) hl.below (by omega),decide_eq_true_eq]
   rw [Int.toNat_of_nonneg hr.1]; exact hx
  ·rintro ⟨hr,hh⟩
   rw [has_toS (by omega) hl.below (by omega),decide_eq_true_eq,Int.toNat_of_nonneg hr.1] at hh
   exact hh
 rw [key ha,key hb,h]
theorem list_toS {n : Nat} {l : List Int} (h : VS n l) : (toS l).list.map (fun (x : Nat) => (x : Int)) = l := by
 have hn := h.nle
 rw [list_eq (by omega) h.full]
 exact toS_inj (lN_vs hn _) h (toS_lN hn h.full)
end Go.Ab.Tab
/- Determinizing: what the program answers,by cases. -/
namespace Go.Ab.Tab
open Go Go.Ab
set_option maxRecDepth 10000
set_option linter.unusedVariables false
set_option linter.unusedSimpArgs false
theorem faultW_nil_ok {s : Sy} (h1 : isY s = true) (h2 : lettersF s.f ≠ 0) : faultW s [] [] = 0 := by
 unfold faultW
 rw [h1,if_pos rfl,if_neg h2]; rfl
structure AuG (k : Nat) (ps : Aut) : Prop where
 ok : AuOk k ps
 rl : ∀ p ∈ ps,∀ r ∈ p.2,r.length ≤ maxLen
 is : isY (auY k ps) = true
 fit : ∀ v ∈ (auY k ps).m,fitV v
 nodes : nodesVs (auY k ps).m ≤ 2 ^ 32
theorem AuG.w {k : Nat} {ps : Aut} (h : AuG k ps) : ∀ r ∈ (paOf k ps).rows,(paOf k ps).k ≤ r.length := fun r hr => by rw [paOf_w h.ok r hr]; exact Nat.le_refl _
theorem AuG.letters {k : Nat} {ps : Aut} (h : AuG k ps) : lettersF (auY k ps).f = k := letters_typ h.ok.kpos h.ok.kle
theorem AuG.mlen {k : Nat} {ps : Aut} : (auY k ps).m.length = ps.length := List.length_map _
theorem au_cases (s : Sy) (hv : ∀ v ∈ s.m,fitV v) (hb : nodesVs s.m ≤ 2 ^ 32) : (isY s = false ∨ lettersF s.f = 0) ∨ ∃ k ps,s = auY k ps ∧ AuG k ps := by
 cases hy : isY s with
 | false => exact .inl (.inl rfl)
 | true =>
  by_cases hl : lettersF s.f = 0
  ·exact .inl (.inr hl)
  ·obtain ⟨k,ps,hps,rfl⟩ := isY_au hy hl
   exact .inr ⟨k,ps,rfl,hps,fun p hp => fit_rows (hv _ (List.mem_map.2 ⟨p,hp,rfl⟩)),hy,hv,hb⟩
end Go.Ab.Tab
/- The reference's First (52). -/
namespace Go.Ab.Tab
open Go Go.Ab
set_option maxRecDepth 10000
set_option linter.unusedVariables false
set_option linter.unusedSimpArgs false
abbrev MW := List (List Int) × List (List Nat)
def addF (p : MW) (y : List Int) (w : List Nat) : MW := match idxL y 0 p.1 with | some _ => p | none => (p.1 ++ [y],p.2 ++ [w])
def stepF (ps : Aut) (x : List Int) (w : List Nat) : Nat → Nat → MW → MW
 | 0,_,p => p
 | j + 1,a,p => stepF ps x w j (a + 1) (addF p (nx ps a x) (w ++ [a]))
def firstR (k : Nat) (ps : Aut) : Nat → Nat → MW → Option (Option (List Nat))
 | 0,_,_ => none
 | f + 1,i,p => match p.1[i]?,p.2[i]? with
  | some x,some w => if finL ps x then some (some w) else firstR k ps f (i + 1) (stepF ps x w k 0 p)
  | _,_ => some none
def encWs (ws : List (List Nat)) : AV := .sl 1 (ws.map fun w => .sl 1 (w.map encN) .no) .tip
structure MWOk (n i : Nat) (p : MW) : Prop where
 vs : VSs n p.1
 len : p.1.length = p.2.length
 short : ∀ w ∈ p.2,w.length ≤ i
theorem addF_ok {n i : Nat} {p : MW} (h : MWOk n i p) {y : List Int} (hy : VS n y) {w : List Nat} (hw : w.length ≤ i) : MWOk n i (addF p y w) := by
 unfold addF
 split
 ·exact h
 ·refine ⟨fun l hl => ?_,by simp [h.len],fun v hv => ?_⟩
  ·rcases List.mem_append.1 hl with hl | hl
   ·exact h.vs l hl
   ·rw [List.mem_singleton.1 hl]; exact hy
  ·rcases List.mem_append.1 hv with hv | hv
   ·exact h.short v hv
   ·rw [List.mem_singleton.1 hv]; exact hw
theorem addF_len (p : MW) (y : List Int) (w : List Nat) : (addF p y w).1.length ≤ p.1.length + 1 ∧ p.1.length ≤ (addF p y w).1.length := by unfold addF; split <;> simp
theorem stepF_ok {k n i : Nat} {ps : Aut} (hps : AuOk k ps) (hn : n = ps.length) {x : List Int} {w : List Nat} (hw : w.length + 1 ≤ i) : ∀ (j a : Nat) (p : MW),MWOk n i p → MWOk n i (stepF ps x w j a p)
 | 0,a,p,h => h
 | j + 1,a,p,h => stepF_ok hps hn hw j (a + 1) _ (addF_ok h (by rw [hn]; exact nx_vs hps a x) (by simp; omega))
theorem stepF_len (ps : Aut) (x : List Int) (w : List Nat) : ∀ (j a : Nat) (p : MW),(stepF ps x w j a p).1.length ≤ p.1.length + j
 | 0,a,p => by simp [stepF]
 | j + 1,a,p => by
  rw [stepF]
  have h := stepF_len ps x w j (a + 1) (addF p (nx ps a x) (w ++ [a]))
  have h2 := addF_len p (nx ps a x) (w ++ [a])
  omega
theorem MWOk.mono {n i j : Nat} {p : MW} (h : MWOk n i p) (hij : i ≤ j) : MWOk n j p := ⟨h.vs,h.len,fun w hw => Nat.le_trans (h.short w hw) hij⟩
theorem l52_0 (D k : Nat) (ps : Aut) (hps : AuOk k ps) (hrl : ∀ p ∈ ps,∀ r ∈ p.2,r.length ≤ maxLen) (FL : List AV) (hy : encY (auY k ps) = .agg [.int .i64 2,.int .i64 0,.sl 3 FL .no,.sl 3 (ps.map fun p => encV (mkAu p)) .no]) (i : Nat) (x : List Int) (hx : VS ps.length x) (w : List Nat) (hwl : w.length ≤ 5000) (S) (K : List AI) (Q : St → Prop) :
  ∀ (m a : Nat) (p : MW) (τ ω),a + m = k → p.1[i]? = some x → p.2[i]? = some w → p.1.length = p.2.length → p.1.length + m ≤ 9000 →
  τ 2 = .ptr D 2 1 0 → τ 6 = .sl 1 (p.1.map encI) .tip → τ 7 = encWs p.2 → τ 8 = .int .i64 i → τ 32 = .int .i64 k → τ 33 = .int .i64 a →
  ω 2 = (1,.cells [.int .i64 2,.int .i64 0,.sl 3 FL .no,.sl 3 (ps.map fun p => encV (mkAu p)) .no]) →
  (∀ τ' ω',τ' 2 = .ptr D 2 1 0 → τ' 6 = .sl 1 ((stepF ps x w m a p).1.map encI) .tip → τ' 7 = encWs (stepF ps x w m a p).2 → τ' 8 = .int .i64 i →
   ω' 2 = (1,.cells [.int .i64 2,.int .i64 0,.sl 3 FL .no,.sl 3 (ps.map fun p => encV (mkAu p)) .no]) → Rd (Loc Pg Gl) .im Q K (stF 64 D τ' ω' S)) →
  Rd (Loc Pg Gl) .im Q (.lp c52_l0 :: .blk 2 :: K) (stF 64 D τ ω S) := by
 have hk4 := hps.kle
 intro m
 induction m with
 | zero =>
  intro a p τ ω ha hi hwi hlen hb h2 h6 h7 h8 h32 h33 w2 hend
  refine Rd_lpE c52_l0.eq_1 ?_
  obtain rfl : a = k := by omega
  rw [stepF] at hend
  simp [h32,h33]
  refine hend _ _ ?_ ?_ ?_ ?_ w2
  all_goals simp [h2,h6,h7,h8]
 | succ m ih =>
  intro a p τ ω ha hi hwi hlen hb h2 h6 h7 h8 h32 h33 w2 hend
  refine Rd_lpE c52_l0.eq_1 ?_
  have hlt : a < k := by omega
  have hwr : IntKind.i64.wrap ((a : Int) + 1) = ((a + 1 : Nat) : Int) := by rw [← wrap_i64_nat (n := a + 1) (by omega)]; rfl
  have hil : i < p.1.length := (List.getElem?_eq_some_iff.1 hi).1
  have hie : p.1[i] = x := (List.getElem?_eq_some_iff.1 hi).2
  have hil2 : i < p.2.length := (List.getElem?_eq_some_iff.1 hwi).1
  have hie2 : p.2[i] = w := (List.getElem?_eq_some_iff.1 hwi).2
  rw [stepF] at hend
  have h49 := spec49 (D + 1) k a ps hps hlt hrl x hx.below hx.len
  have e1 : lN ps.length (nxtL ps a x) = nx ps a x := rfl
  rw [e1,hy] at h49
  obtain ⟨y,hyy⟩ : ∃ y,nx ps a x = y := ⟨_,rfl⟩
  rw [hyy] at h49 hend
  have hyl : y.length ≤ maxLen := by rw [← hyy]; exact (nx_vs hps a x).len
  have h93 := spec93 (D + 1) p.1 y hyl (by unfold maxLen; omega)
  have h7' := h7
  unfold encWs at h7'
  simp [h2,h6,h8,h32,h33,w2,hlt,hil,hie,encI_left]
  refine Rd_drCall h49 (by simp) ?_
  simp [h6,encI_left]
  refine Rd_call h93 (by simp [encLs]) ?_
  cases hxx : idxL y 0 p.1 with
  | none =>
   have e : addF p y (w ++ [a]) = (p.1 ++ [y],p.2 ++ [w ++ [a]]) := by unfold addF; rw [hxx]
   rw [e] at hend
   have hle : (p.1.length + 1) * 24 ≤ 1099511627776 := by omega
   have hle2 : (p.2.length + 1) * 24 ≤ 1099511627776 := by omega
   have hle3 : (w.length + 1) * 8 ≤ 1099511627776 := by omega
   have hle4 : w.length * 8 ≤ 1099511627776 := by omega
   simp [optN,h6,h7',h8,h33,hwr,hle,hle2,hle3,hle4,hil2,hie2,encI_left,apartB]
   refine ih (a + 1) (p.1 ++ [y],p.2 ++ [w ++ [a]]) _ _ (by omega) (by simp only []; rw [List.getElem?_append_left hil]; exact hi) (by simp only []; rw [List.getElem?_append_left hil2]; exact hwi) (by simp; omega) (by simp; omega) ?_ ?_ ?_ ?_ ?_ ?_ w2 hend
   all_goals simp [h2,h8,h32,encWs,encN,hwr]
  | some j =>
   have e : addF p y (w ++ [a]) = p := by unfold addF; rw [hxx]
   rw [e] at hend
   have hj : ¬ ((j : Int) < 0) := by omega
   simp [optN,hj,h33,hwr,encI_left]
   refine ih (a + 1) p _ _ (by omega) hi hwi hlen (by omega) ?_ ?_ ?_ ?_ ?_ ?_ w2 hend
   all_goals simp [h2,h6,h7,h8,h32,hwr]
def rFirst : Option (List Nat) → AV
 | none => .tup [.sl 1 [] .no,.bool false]
 | some w => .tup [.sl 1 (w.map encN) .no,.bool true]
theorem l52_1 (D k : Nat) (ps : Aut) (hps : AuOk k ps) (hrl : ∀ p ∈ ps,∀ r ∈ p.2,r.length ≤ maxLen) (FL : List AV) (hy : encY (auY k ps) = .agg [.int .i64 2,.int .i64 0,.sl 3 FL .no,.sl 3 (ps.map fun p => encV (mkAu p)) .no]) (h48 : Go.Ab.Loc Pg Gl (D + 1) 48 [encY (auY k ps)] [] (.int .i64 k) []) (S) (r : AV) (res : Option (List Nat)) (hr : r = rFirst res) :
  ∀ (f i : Nat) (p : MW) (τ ω),firstR k ps f i p = some res → MWOk ps.length i p → i + f ≤ 2000 → p.1.length ≤ 1 + 4 * i →
  τ 2 = .ptr D 2 1 0 → τ 6 = .sl 1 (p.1.map encI) .tip → τ 7 = encWs p.2 → τ 8 = .int .i64 i →
  ω 2 = (1,.cells [.int .i64 2,.int .i64 0,.sl 3 FL .no,.sl 3 (ps.map fun p => encV (mkAu p)) .no]) →
  Rd (Loc Pg Gl) .im (RetQ [.tmp 4,.tmp 5] r S) [.lp c52_l1,.blk 0,.c c52_k1] (stF 64 D τ ω S) := by
 have hk4 := hps.kle
 intro f
 induction f with
 | zero => intro i p τ ω h; cases h
 | succ f ih =>
  intro i p τ ω hd hok hif hpl h2 h6 h7 h8 w2
  refine Rd_lpE c52_l1.eq_1 ?_
  rw [firstR] at hd
  have h7' := h7
  unfold encWs at h7'
  cases hx : p.1[i]? with
  | none =>
   rw [hx] at hd
   injection hd with hd
   have hil : ¬ i < p.1.length := fun h => by rw [List.getElem?_eq_getElem h] at hx; cases hx
   simp [h6,h8,hil,c52_k1]
   rw [hr,← hd]; rfl
  | some x =>
   have hil : i < p.1.length := (List.getElem?_eq_some_iff.1 hx).1
   have hie : p.1[i] = x := (List.getElem?_eq_some_iff.1 hx).2
   have hil2 : i < p.2.length := by rw [← hok.len]; exact hil
   obtain ⟨w,hw⟩ : ∃ w,p.2[i]? = some w := ⟨_,List.getElem?_eq_getElem hil2⟩
   have hie2 : p.2[i] = w := (List.getElem?_eq_some_iff.1 hw).2
   rw [hx,hw] at hd
   simp only at hd
   have hvx := hok.vs x (mem_of_get hx)
   have hwl := hok.short w (mem_of_get hw)
   have h76 := spec76 (D + 1) k ps x hvx.below hvx.len
   rw [hy] at h76
   have hwr : IntKind.i64.wrap ((i : Int) + 1) = ((i + 1 : Nat) : Int) := by rw [← wrap_i64_nat (n := i + 1) (by omega)]; rfl
   simp [h2,h6,h8,w2,hil,hie,encI_left]
   refine Rd_drCall h76 (by simp) ?_
   cases hf : finL ps x with
   | true =>
    rw [hf,if_pos rfl] at hd
    injection hd with hd
    simp [h7',h8,hil2,hie2]
    rw [hr,← hd]; rfl
   | false =>
    rw [hf,if_neg (by simp)] at hd
    rw [hy] at h48
    simp [h2,w2]
    refine Rd_call h48 (by simp) ?_
    simp
    refine l52_0 D k ps hps hrl FL hy i x hvx w (by omega) S _ _ k 0 p _ _ (by omega) hx hw hok.len (by omega) ?_ ?_ ?_ ?_ ?_ ?_ ?_ ?_
    case refine_8 =>
     intro τ' ω' g2 g6 g7 g8 v2
     have hlen := stepF_len ps x w k 0 p
     have hok2 := stepF_ok (ps := ps) (x := x) hps rfl (show w.length + 1 ≤ i + 1 by omega) k 0 p (hok.mono (by omega))
     simp [c52_k0,g8,hwr]
     refine ih (i + 1) _ _ _ hd hok2 (by omega) (by omega) ?_ ?_ ?_ ?_ v2
     all_goals simp [g2,g6,g7,hwr]
    all_goals simp [h2,h6,h7,h8,w2]
theorem spec52 (D k : Nat) (ps : Aut) (hps : AuOk k ps) (hrl : ∀ p ∈ ps,∀ r ∈ p.2,r.length ≤ maxLen) (x : List Int) (hx : VS ps.length x) (f : Nat) (hf : f ≤ 1900) (res : Option (List Nat)) (hd : firstR k ps f 0 ([x],[[]]) = some res) :
  Go.Ab.Loc Pg Gl D 52 [encY (auY k ps),encI x] [] (rFirst res) [] := by
 refine loc_rd mixedP tok rfl rfl fun S => ?_
 unfold c52
 have h48 := spec48 (D + 1) (auY k ps) (fitF_typ k)
 rw [show lettersF (auY k ps).f = k from letters_typ hps.kpos hps.kle] at h48
 have hy := encY_au k ps
 generalize hr : rFirst res = r
 rw [hy]
 simp [encI_left]
 refine l52_1 D k ps hps hrl _ hy h48 S r res hr.symm f 0 ([x],[[]]) _ _ hd ⟨?_,rfl,?_⟩ (by omega) (by simp) ?_ ?_ ?_ ?_ ?_
 ·intro l hl; rw [List.mem_singleton.1 hl]; exact hx
 ·intro w hw; rw [List.mem_singleton.1 hw]; simp
 all_goals simp [encWs]
end Go.Ab.Tab
/- Acceptance of words by states; the order of words; the distances. -/
namespace Go.Ab.Tab
open Go Go.Ab
set_option maxRecDepth 10000
set_option linter.unusedVariables false
set_option linter.unusedSimpArgs false
structure AOk (A : PA) : Prop where
 n : A.n ≤ 100
 k : A.k ≤ 4
 rows : A.rows.length = A.n
 row : ∀ r ∈ A.rows,r.length = A.k
 lt : ∀ x l,∀ y ∈ (rowA A x l).list,y < A.n
theorem AuOk.a {k : Nat} {ps : Aut} (h : AuOk k ps) : AOk (paOf k ps) := ⟨h.len,h.kle,paOf_rl k ps,paOf_w h,rowA_lt h⟩
theorem has_row_k {A : PA} (h : AOk A) {x l y : Nat} (hy : (rowA A x l).has y = true) : x < A.n ∧ l < A.k ∧ y < A.n := by
 refine ⟨?_,?_,h.lt x l y (mem_list.2 hy)⟩
 ·apply Classical.byContradiction; intro hx
  unfold rowA at hy
  rw [List.getElem?_eq_none (l := A.rows) (by rw [h.rows]; omega)] at hy
  simp [BS.has] at hy
 ·apply Classical.byContradiction; intro hl
  unfold rowA at hy
  cases hr : A.rows[x]? with
  | none => rw [hr] at hy; simp [BS.has] at hy
  | some r =>
   rw [hr] at hy
   have := h.row r (mem_of_get hr)
   simp only [Option.getD_some] at hy
   rw [List.getElem?_eq_none (by omega)] at hy
   simp [BS.has] at hy
def AccS (A : PA) : Nat → List Nat → Prop
 | x,[] => A.F.has x = true
 | x,a :: w => ∃ y,(rowA A x a).has y = true ∧ AccS A y w
def runWd (A : PA) (u : BS) (w : List Nat) : BS := w.foldl (nextA A) u
def Acc (A : PA) (u : BS) (w : List Nat) : Prop := ∃ x,u.has x = true ∧ AccS A x w
theorem has_next {A : PA} (h : AOk A) {u : BS} {a y : Nat} : (nextA A u a).has y = true ↔ ∃ z,u.has z = true ∧ (rowA A z a).has y = true := by
 rw [has_nextA]
 constructor
 ·rintro ⟨z,_,h1,h2⟩; exact ⟨z,h1,h2⟩
 ·rintro ⟨z,h1,h2⟩; exact ⟨z,(has_row_k h h2).1,h1,h2⟩
theorem Acc_cons {A : PA} (h : AOk A) {u : BS} {a : Nat} {w : List Nat} : Acc A u (a :: w) ↔ Acc A (nextA A u a) w := by
 constructor
 ·rintro ⟨x,h1,y,h2,h3⟩; exact ⟨y,(has_next h).2 ⟨x,h1,h2⟩,h3⟩
 ·rintro ⟨y,h1,h2⟩
  obtain ⟨x,h3,h4⟩ := (has_next h).1 h1
  exact ⟨x,h3,y,h4,h2⟩
theorem Acc_run {A : PA} (h : AOk A) : ∀ {w : List Nat} {u : BS},Acc A u w ↔ endsB A.F (runWd A u w) = true
 | [],u => by rw [endsB_iff]; rfl
 | a :: w,u => by rw [Acc_cons h,Acc_run h]; rfl
theorem AccS_letters {A : PA} (h : AOk A) : ∀ {w : List Nat} {x : Nat},AccS A x w → ∀ a ∈ w,a < A.k
 | [],_,_,a,ha => by cases ha
 | b :: w,x,⟨y,h1,h2⟩,a,ha => by
  rcases List.mem_cons.1 ha with rfl | ha
  ·exact (has_row_k h h1).2.1
  ·exact AccS_letters h h2 a ha
def lexLe : List Nat → List Nat → Prop
 | [],_ => True
 | _ :: _,[] => False
 | a :: v,b :: w => a < b ∨ a = b ∧ lexLe v w
def slLe (v w : List Nat) : Prop := v.length < w.length ∨ v.length = w.length ∧ lexLe v w
theorem lexLe_refl : ∀ v,lexLe v v
 | [] => trivial
 | a :: v => .inr ⟨rfl,lexLe_refl v⟩
theorem lexLe_antisymm : ∀ {v w : List Nat},v.length = w.length → lexLe v w → lexLe w v → v = w
 | [],[],_,_,_ => rfl
 | [],_ :: _,h,_,_ => by cases h
 | _ :: _,[],h,_,_ => by cases h
 | a :: v,b :: w,h,h1,h2 => by
  rcases h1 with h1 | ⟨rfl,h1⟩
  ·rcases h2 with h2 | ⟨e,_⟩ <;> omega
  ·rcases h2 with h2 | ⟨_,h2⟩
   ·omega
   ·rw [lexLe_antisymm (by simpa using h) h1 h2]
theorem slLe_antisymm {v w : List Nat} (h1 : slLe v w) (h2 : slLe w v) : v = w := by
 rcases h1 with h1 | ⟨e,h1⟩
 ·rcases h2 with h2 | ⟨e,_⟩ <;> omega
 ·rcases h2 with h2 | ⟨_,h2⟩
  ·omega
  ·exact lexLe_antisymm e h1 h2
theorem lexLe_trans : ∀ {u v w : List Nat},lexLe u v → lexLe v w → lexLe u w
 | [],_,_,_,_ => trivial
 | _ :: _,[],_,h,_ => h.elim
 | _ :: _,_ :: _,[],_,h => h.elim
 | a :: u,b :: v,c :: w,h1,h2 => by
  rcases h1 with h1 | ⟨rfl,h1⟩
  ·rcases h2 with h2 | ⟨rfl,h2⟩
   ·exact .inl (by omega)
   ·exact .inl h1
  ·rcases h2 with h2 | ⟨rfl,h2⟩
   ·exact .inl h2
   ·exact .inr ⟨rfl,lexLe_trans h1 h2⟩
theorem slLe_trans {u v w : List Nat} (h1 : slLe u v) (h2 : slLe v w) : slLe u w := by
 rcases h1 with h1 | ⟨e1,h1⟩
 ·rcases h2 with h2 | ⟨e2,_⟩ <;> exact .inl (by omega)
 ·rcases h2 with h2 | ⟨e2,h2⟩
  ·exact .inl (by omega)
  ·exact .inr ⟨by omega,lexLe_trans h1 h2⟩
theorem slLe_refl (v : List Nat) : slLe v v := .inr ⟨rfl,lexLe_refl v⟩
theorem lexLe_snoc : ∀ {v w : List Nat} {a b : Nat},v.length = w.length → lexLe v w → a ≤ b → lexLe (v ++ [a]) (w ++ [b])
 | [],[],a,b,_,_,h => by
  rcases Nat.lt_or_ge a b with q | q
  ·exact .inl q
  ·exact .inr ⟨by omega,trivial⟩
 | [],_ :: _,_,_,h,_,_ => by cases h
 | _ :: _,[],_,_,h,_,_ => by cases h
 | x :: v,y :: w,a,b,hl,h,hab => by
  rcases h with h | ⟨rfl,h⟩
  ·exact .inl h
  ·exact .inr ⟨rfl,lexLe_snoc (by simpa using hl) h hab⟩
theorem slLe_snoc {v w : List Nat} {a b : Nat} (h : slLe v w) (hab : a ≤ b) : slLe (v ++ [a]) (w ++ [b]) := by
 rcases h with h | ⟨e,h⟩
 ·exact .inl (by simp; omega)
 ·exact .inr ⟨by simp [e],lexLe_snoc e h hab⟩
theorem slLe_pre (v : List Nat) (a : Nat) : slLe v (v ++ [a]) := .inl (by simp)
theorem slLe_more {v w : List Nat} (h : slLe v w) (hne : v ≠ w) (a b : Nat) : slLe (v ++ [a]) (w ++ [b]) := by
 rcases h with h | ⟨e,h⟩
 ·exact .inl (by simp; omega)
 ·refine .inr ⟨by simp [e],?_⟩
  have : ∀ {v w : List Nat},v.length = w.length → lexLe v w → v ≠ w → lexLe (v ++ [a]) (w ++ [b]) := by
   intro v
   induction v with
   | nil => intro w hl _ hne; cases w with | nil => exact absurd rfl hne | cons _ _ => cases hl
   | cons x v ih =>
    intro w hl h hne
    cases w with
    | nil => cases hl
    | cons y w =>
     rcases h with h | ⟨rfl,h⟩
     ·exact .inl h
     ·exact .inr ⟨rfl,ih (by simpa using hl) h (fun q => hne (by rw [q]))⟩
  exact this e h hne
structure IsFirst (A : PA) (u : BS) (w : List Nat) : Prop where
 acc : Acc A u w
 least : ∀ v,Acc A u v → slLe w v
theorem IsFirst.uniq {A : PA} {u : BS} {v w : List Nat} (h1 : IsFirst A u v) (h2 : IsFirst A u w) : v = w := slLe_antisymm (h1.least w h2.acc) (h2.least v h1.acc)
theorem has_preR (T : BS) (x : Nat) (hx : x < 128) (y : Nat) (hy : y < 128) : ∀ (ts : List BS) (s : BS),(preR T x ts s).has y = true ↔ s.has y = true ∨ (y = x ∧ ∃ t ∈ ts,endsB T t = true)
 | [],s => by simp [preR]
 | t :: ts,s => by
  rw [preR,has_preR T x hx y hy ts]
  cases ht : endsB T t with
  | true =>
   rw [if_pos rfl,has_or,has_single hx hy,Bool.or_eq_true,decide_eq_true_eq]
   constructor
   ·rintro ((h | h) | ⟨h,q⟩)
    ·exact .inl h
    ·exact .inr ⟨h,t,by simp,ht⟩
    ·obtain ⟨t',h1,h2⟩ := q; exact .inr ⟨h,t',by simp [h1],h2⟩
   ·rintro (h | ⟨h,_⟩)
    ·exact .inl (.inl h)
    ·exact .inl (.inr h)
  | false =>
   rw [if_neg (by simp)]
   constructor
   ·rintro (h | ⟨h,t',h1,h2⟩)
    ·exact .inl h
    ·exact .inr ⟨h,t',by simp [h1],h2⟩
   ·rintro (h | ⟨h,t',h1,h2⟩)
    ·exact .inl h
    ·rcases List.mem_cons.1 h1 with rfl | h1
     ·rw [ht] at h2; cases h2
     ·exact .inr ⟨h,t',h1,h2⟩
theorem has_preA {A : PA} (T : BS) {y : Nat} (hy : y < 128) : ∀ (j x : Nat) (s : BS),x + j ≤ 128 → ((preA A T j x s).has y = true ↔ s.has y = true ∨ (x ≤ y ∧ y < x + j ∧ ∃ t ∈ (A.rows[y]?.getD []),endsB T t = true))
 | 0,x,s,_ => by
  rw [preA]
  constructor
  ·intro h; exact .inl h
  ·rintro (h | ⟨_,_,_⟩)
   ·exact h
   ·omega
 | j + 1,x,s,hj => by
  rw [preA,has_preA T hy j (x + 1) _ (by omega),has_preR T x (by omega) y hy]
  constructor
  ·rintro ((h | ⟨rfl,h⟩) | ⟨h1,h2,h3⟩)
   ·exact .inl h
   ·exact .inr ⟨by omega,by omega,h⟩
   ·exact .inr ⟨by omega,by omega,h3⟩
  ·rintro (h | ⟨h1,h2,h3⟩)
   ·exact .inl (.inl h)
   ·by_cases e : y = x
    ·subst e; exact .inl (.inr ⟨rfl,h3⟩)
    ·exact .inr ⟨by omega,by omega,h3⟩
def DistOk (A : PA) (i : Nat) (N : BS) : Prop := ∀ x,x < A.n → (N.has x = true ↔ ∃ w : List Nat,w.length = i ∧ AccS A x w)
theorem dist_step {A : PA} (h : AOk A) {i : Nat} {T : BS} (hT : DistOk A i T) : DistOk A (i + 1) (preA A T A.n 0 (0#64,0#64)) := by
 intro x hx
 have hn := h.n
 rw [has_preA T (by omega) A.n 0 _ (by omega)]
 have hz : BS.has (0#64,0#64) x = false := has_zero x
 rw [hz]
 have hxr : x < A.rows.length := by rw [h.rows]; exact hx
 rw [List.getElem?_eq_getElem hxr,Option.getD_some]
 have hrl := h.row _ (List.getElem_mem hxr)
 have hcell : ∀ a (ha : a < A.k),rowA A x a = (A.rows[x])[a]'(by omega) := by
  intro a ha
  unfold rowA
  rw [List.getElem?_eq_getElem hxr,Option.getD_some,List.getElem?_eq_getElem (by omega),Option.getD_some]
 constructor
 ·rintro (q | ⟨_,_,t,ht,hte⟩)
  ·cases q
  ·obtain ⟨y,h1,h2⟩ := endsB_iff.1 hte
   obtain ⟨a,ha,rfl⟩ := List.getElem_of_mem ht
   have e := hcell a (by omega)
   rw [← e] at h1
   have hy := (has_row_k h h1).2.2
   obtain ⟨w,hw1,hw2⟩ := (hT y hy).1 h2
   exact ⟨a :: w,by simp [hw1],y,h1,hw2⟩
 ·rintro ⟨w,hw1,hw2⟩
  cases w with
  | nil => cases hw1
  | cons a w =>
   obtain ⟨y,h1,h2⟩ := hw2
   obtain ⟨_,ha,hy⟩ := has_row_k h h1
   refine .inr ⟨by omega,by omega,(A.rows[x])[a]'(by omega),List.getElem_mem _,endsB_iff.2 ⟨y,?_,(hT y hy).2 ⟨w,by simpa using hw1,h2⟩⟩⟩
   rw [← hcell a ha]; exact h1
theorem dist_all {A : PA} (h : AOk A) : ∀ (m i : Nat) (T : BS),DistOk A i T → ∀ j,j < m → ∃ N,(distA A m T)[j]? = some N ∧ DistOk A (i + 1 + j) N
 | 0,i,T,_,j,hj => by omega
 | m + 1,i,T,hT,j,hj => by
  rw [distA]
  have h1 := dist_step h hT
  cases j with
  | zero => exact ⟨_,rfl,h1⟩
  | succ j =>
   obtain ⟨N,q1,q2⟩ := dist_all h m (i + 1) _ h1 j (by omega)
   exact ⟨N,by simpa using q1,by rw [show i + 1 + (j + 1) = i + 1 + 1 + j by omega]; exact q2⟩
theorem near_ok {A : PA} (h : AOk A) (i : Nat) (hi : i ≤ A.n) : ∃ N,(nearA A)[i]? = some N ∧ DistOk A i N := by
 have h0 : DistOk A 0 A.F := by
  intro x hx
  constructor
  ·intro q; exact ⟨[],rfl,q⟩
  ·rintro ⟨w,hw1,hw2⟩
   cases w with
   | nil => exact hw2
   | cons _ _ => cases hw1
 unfold nearA
 cases i with
 | zero => exact ⟨_,rfl,h0⟩
 | succ i =>
  obtain ⟨N,q1,q2⟩ := dist_all h A.n 0 A.F h0 i (by omega)
  exact ⟨N,by simpa using q1,by rw [show 0 + 1 + i = i + 1 by omega] at q2; exact q2⟩
end Go.Ab.Tab
/- The program's first word is the first word. -/
namespace Go.Ab.Tab
open Go Go.Ab
set_option maxRecDepth 10000
set_option linter.unusedVariables false
set_option linter.unusedSimpArgs false
theorem findL_spec {A : PA} {N u : BS} : ∀ (j l : Nat),
  (match findL A N u j l with
   | some a => (l ≤ a ∧ a < l + j) ∧ endsB N (nextA A u a) = true ∧ ∀ b,l ≤ b → b < a → endsB N (nextA A u b) = false
   | none => ∀ b,l ≤ b → b < l + j → endsB N (nextA A u b) = false)
 | 0,l => by simp only [findL]; intro b h1 h2; omega
 | j + 1,l => by
  rw [findL]
  cases hb : endsB N (nextA A u l) with
  | true =>
   simp only [if_true]
   exact ⟨⟨Nat.le_refl _,by omega⟩,hb,fun b h1 h2 => by omega⟩
  | false =>
   simp only [Bool.false_eq_true,if_false]
   have ih := findL_spec (A := A) (N := N) (u := u) j (l + 1)
   cases hf : findL A N u j (l + 1) with
   | some a =>
    rw [hf] at ih
    simp only at ih ⊢
    refine ⟨by omega,ih.2.1,fun b h1 h2 => ?_⟩
    by_cases e : b = l
    ·subst e; exact hb
    ·exact ih.2.2 b (by omega) h2
   | none =>
    rw [hf] at ih
    simp only at ih ⊢
    intro b h1 h2
    by_cases e : b = l
    ·subst e; exact hb
    ·exact ih b (by omega) (by omega)
theorem meets_iff {A : PA} (h : AOk A) {i : Nat} {N : BS} (hN : DistOk A i N) {u : BS} (hu : ∀ x,u.has x = true → x < A.n) : endsB N u = true ↔ ∃ w : List Nat,w.length = i ∧ Acc A u w := by
 rw [endsB_iff]
 constructor
 ·rintro ⟨x,h1,h2⟩
  obtain ⟨w,h3,h4⟩ := (hN x (hu x h1)).1 h2
  exact ⟨w,h3,x,h1,h4⟩
 ·rintro ⟨w,h3,x,h1,h4⟩
  exact ⟨x,h1,(hN x (hu x h1)).2 ⟨w,h3,h4⟩⟩
theorem next_lt {A : PA} (h : AOk A) {u : BS} {a : Nat} : ∀ x,(nextA A u a).has x = true → x < A.n := by
 intro x hx
 obtain ⟨z,_,h2⟩ := (has_next h).1 hx
 exact (has_row_k h h2).2.2
theorem wordL_spec {A : PA} (h : AOk A) : ∀ (i : Nat) (u : BS),i ≤ A.n → (∀ x,u.has x = true → x < A.n) → (∃ w : List Nat,w.length = i ∧ Acc A u w) →
  (wordL A (nearA A) i u).length = i ∧ Acc A u (wordL A (nearA A) i u) ∧ ∀ w : List Nat,w.length = i → Acc A u w → lexLe (wordL A (nearA A) i u) w
 | 0,u,_,hu,⟨w,hw,ha⟩ => by
  rw [wordL]
  obtain rfl : w = [] := List.length_eq_zero_iff.1 hw
  exact ⟨rfl,ha,fun w _ _ => trivial⟩
 | i + 1,u,hi,hu,⟨w,hw,ha⟩ => by
  obtain ⟨N,hN1,hN2⟩ := near_ok h i (by omega)
  rw [wordL,hN1,Option.getD_some]
  have hm : ∀ b,endsB N (nextA A u b) = true ↔ ∃ w : List Nat,w.length = i ∧ Acc A (nextA A u b) w := fun b => meets_iff h hN2 (next_lt h)
  obtain ⟨b,v,rfl⟩ : ∃ b v,w = b :: v := by
   cases w with
   | nil => cases hw
   | cons b v => exact ⟨b,v,rfl⟩
  have hv : v.length = i := by simpa using hw
  have hav := (Acc_cons h).1 ha
  have hbk : b < A.k := by
   obtain ⟨x,_,y,h2,_⟩ := ha
   exact (has_row_k h h2).2.1
  have fs := findL_spec (A := A) (N := N) (u := u) A.k 0
  cases hf : findL A N u A.k 0 with
  | none =>
   rw [hf] at fs
   have := fs b (by omega) (by omega)
   rw [(hm b).2 ⟨v,hv,hav⟩] at this; cases this
  | some a =>
   rw [hf] at fs
   obtain ⟨f1,f2,f3⟩ := fs
   obtain ⟨q1,q2,q3⟩ := wordL_spec h i (nextA A u a) (by omega) (next_lt h) ((hm a).1 f2)
   refine ⟨by simp [q1],(Acc_cons h).2 q2,fun w' hw' ha' => ?_⟩
   cases w' with
   | nil => cases hw'
   | cons c v' =>
    have hv' : v'.length = i := by simpa using hw'
    have hav' := (Acc_cons h).1 ha'
    have hca : ¬ c < a := fun q => by
     have := f3 c (by omega) q
     rw [(hm c).2 ⟨v',hv',hav'⟩] at this; cases this
    rcases Nat.lt_or_ge a c with q | q
    ·exact .inl q
    ·obtain rfl : a = c := by omega
     exact .inr ⟨rfl,q3 v' hv' hav'⟩
structure BInv (A : PA) (s : BS) (K : Nat) (b : Int) (p : BP) : Prop where
 seen : ∀ y,p.1.has y = true ↔ ∃ (j : Nat) (q : Met),p.2[j]? = some q ∧ q.1 = y
 dist : ∀ (i j : Nat) (q q' : Met),p.2[i]? = some q → p.2[j]? = some q' → q.1 = q'.1 → i = j
 mok : MOk A.n p.2
 bnd : ∀ (j : Nat) (q : Met),p.2[j]? = some q → q.2.1 ≤ b
 from_ : ∀ (j : Nat) (q : Met),p.2[j]? = some q → 0 ≤ q.2.1 → ∃ (qf : Met) (l : Nat),p.2[q.2.1.toNat]? = some qf ∧ (rowA A qf.1 l).has q.1 = true
 init : ∀ (j : Nat) (q : Met),p.2[j]? = some q → q.2.1 < 0 → s.has q.1 = true
 all0 : ∀ y,s.has y = true → ∃ (j : Nat) (q : Met),p.2[j]? = some q ∧ q.1 = y ∧ q.2.1 < 0
 mono : ∀ (i j : Nat) (q q' : Met),p.2[i]? = some q → p.2[j]? = some q' → i ≤ j → q.2.1 ≤ q'.2.1
 closed : ∀ (i : Nat) (q : Met),i < K → p.2[i]? = some q → ∀ l y,(rowA A q.1 l).has y = true → ∃ (j : Nat) (q' : Met),p.2[j]? = some q' ∧ q'.1 = y ∧ q'.2.1 ≤ (i : Int)
 nofin : ∀ (i : Nat) (q : Met),i < K → p.2[i]? = some q → A.F.has q.1 = false
theorem snoc_get {α : Type} {l : List α} {x y : α} {j : Nat} (h : (l ++ [x])[j]? = some y) : l[j]? = some y ∨ (j = l.length ∧ y = x) := by
 rcases Nat.lt_trichotomy j l.length with q | q | q
 ·rw [List.getElem?_append_left q] at h; exact .inl h
 ·subst q
  rw [List.getElem?_append_right (Nat.le_refl _)] at h
  simp at h
  exact .inr ⟨rfl,h.symm⟩
 ·rw [List.getElem?_append_right (by omega),List.getElem?_eq_none (by simp; omega)] at h; cases h
theorem get_snoc {α : Type} {l : List α} {x y : α} {j : Nat} (h : l[j]? = some y) : (l ++ [x])[j]? = some y := by
 rw [List.getElem?_append_left (List.getElem?_eq_some_iff.1 h).1]; exact h
theorem get_last {α : Type} (l : List α) (x : α) : (l ++ [x])[l.length]? = some x := by
 rw [List.getElem?_append_right (Nat.le_refl _)]; simp
theorem binv_add {A : PA} {s : BS} {K k l y : Nat} {p : BP} (h : BInv A s K (k : Int) p) {x : Met} (hx : p.2[k]? = some x) (hr : (rowA A x.1 l).has y = true) (hyn : y < A.n) (hn : A.n ≤ 100) (hnew : p.1.has y = false) (hK : K ≤ k) :
  BInv A s K (k : Int) (p.1.or (BS.single y),p.2 ++ [(y,(k : Int),l)]) := by
 have hkl := (List.getElem?_eq_some_iff.1 hx).1
 refine ⟨fun z => ?_,fun i j q q' hi hj e => ?_,h.mok.snoc ⟨hyn,by simp,by simp; exact hkl⟩,fun j q hj => ?_,fun j q hj h0 => ?_,fun j q hj h0 => ?_,fun z hz => ?_,fun i j q q' hi hj hij => ?_,fun i q hi hq a z hz => ?_,fun i q hi hq => ?_⟩
 ·simp only []
  constructor
  ·intro hz
   rw [has_or,Bool.or_eq_true] at hz
   rcases hz with hz | hz
   ·obtain ⟨j,q,h1,h2⟩ := (h.seen z).1 hz
    exact ⟨j,q,get_snoc h1,h2⟩
   ·have hzl := has_lt hz
    rw [has_single (by omega) hzl,decide_eq_true_eq] at hz
    exact ⟨p.2.length,_,get_last _ _,hz.symm⟩
  ·rintro ⟨j,q,h1,h2⟩
   rw [has_or,Bool.or_eq_true]
   rcases snoc_get h1 with h1 | ⟨_,rfl⟩
   ·exact .inl ((h.seen z).2 ⟨j,q,h1,h2⟩)
   ·refine .inr ?_
    have h2 : y = z := h2
    rw [← h2,has_single (by omega) (by omega)]; simp
 ·rcases snoc_get hi with hi | ⟨ei,rfl⟩
  ·rcases snoc_get hj with hj | ⟨ej,rfl⟩
   ·exact h.dist i j q q' hi hj e
   ·have := (h.seen y).2 ⟨i,q,hi,e⟩
    rw [hnew] at this; cases this
  ·rcases snoc_get hj with hj | ⟨ej,rfl⟩
   ·have := (h.seen y).2 ⟨j,q',hj,e.symm⟩
    rw [hnew] at this; cases this
   ·omega
 ·rcases snoc_get hj with hj | ⟨_,rfl⟩
  ·exact h.bnd j q hj
  ·exact Int.le_refl _
 ·rcases snoc_get hj with hj | ⟨_,rfl⟩
  ·obtain ⟨qf,a,h1,h2⟩ := h.from_ j q hj h0
   exact ⟨qf,a,get_snoc h1,h2⟩
  ·exact ⟨x,l,get_snoc (by simpa using hx),hr⟩
 ·rcases snoc_get hj with hj | ⟨_,rfl⟩
  ·exact h.init j q hj h0
  ·simp only at h0; omega
 ·obtain ⟨j,q,h1,h2⟩ := h.all0 z hz
  exact ⟨j,q,get_snoc h1,h2⟩
 ·rcases snoc_get hi with hi | ⟨ei,rfl⟩
  ·rcases snoc_get hj with hj | ⟨ej,rfl⟩
   ·exact h.mono i j q q' hi hj hij
   ·exact h.bnd i q hi
  ·rcases snoc_get hj with hj | ⟨ej,rfl⟩
   ·have := (List.getElem?_eq_some_iff.1 hj).1; omega
   ·exact Int.le_refl _
 ·rcases snoc_get hq with hq | ⟨ei,rfl⟩
  ·obtain ⟨j,q',h1,h2⟩ := h.closed i q hi hq a z hz
   exact ⟨j,q',get_snoc h1,h2⟩
  ·omega
 ·rcases snoc_get hq with hq | ⟨ei,rfl⟩
  ·exact h.nofin i q hi hq
  ·omega
theorem binv_addY {A : PA} (hA : AOk A) {s : BS} {K k l : Nat} {x : Met} (hK : K ≤ k) : ∀ (ys : List Nat) (p : BP),BInv A s K (k : Int) p → p.2[k]? = some x → (∀ y ∈ ys,(rowA A x.1 l).has y = true) →
  BInv A s K (k : Int) (addY k l ys p) ∧ (addY k l ys p).2[k]? = some x ∧ (∀ (j : Nat) q,p.2[j]? = some q → (addY k l ys p).2[j]? = some q) ∧ ∀ y ∈ ys,(addY k l ys p).1.has y = true
 | [],p,h,hx,_ => ⟨h,hx,fun _ _ h => h,by simp⟩
 | y :: ys,p,h,hx,hy => by
  rw [addY]
  have hr := hy y (by simp)
  have hyn := (has_row_k hA hr).2.2
  have hmono : ∀ (ys : List Nat) (p : BP) z,p.1.has z = true → (addY k l ys p).1.has z = true := by
   intro ys
   induction ys with
   | nil => intro p z hz; exact hz
   | cons a ys ih =>
    intro p z hz
    rw [addY]
    apply ih
    split
    ·exact hz
    ·simp only []; rw [has_or,hz]; rfl
  cases hb : p.1.has y with
  | true =>
   rw [if_pos rfl]
   obtain ⟨a1,a2,a3,a4⟩ := binv_addY hA hK ys p h hx fun z hz => hy z (by simp [hz])
   refine ⟨a1,a2,a3,fun z hz => ?_⟩
   rcases List.mem_cons.1 hz with rfl | hz
   ·exact hmono ys p _ hb
   ·exact a4 z hz
  | false =>
   rw [if_neg (by simp)]
   have h2 := binv_add h hx hr hyn hA.n hb hK
   obtain ⟨a1,a2,a3,a4⟩ := binv_addY hA hK ys _ h2 (get_snoc hx) fun z hz => hy z (by simp [hz])
   refine ⟨a1,a2,fun j q hj => a3 j q (get_snoc hj),fun z hz => ?_⟩
   rcases List.mem_cons.1 hz with rfl | hz
   ·refine hmono ys _ _ ?_
    have := hA.n
    rw [has_or,has_single (by omega) (by omega)]; simp
   ·exact a4 z hz
theorem binv_stepL {A : PA} (hA : AOk A) {s : BS} {K k : Nat} {x : Met} (hK : K ≤ k) : ∀ (j l : Nat) (p : BP),BInv A s K (k : Int) p → p.2[k]? = some x →
  BInv A s K (k : Int) (stepL A x.1 k j l p) ∧ (stepL A x.1 k j l p).2[k]? = some x ∧ (∀ z,p.1.has z = true → (stepL A x.1 k j l p).1.has z = true) ∧ ∀ a y,l ≤ a → a < l + j → (rowA A x.1 a).has y = true → (stepL A x.1 k j l p).1.has y = true
 | 0,l,p,h,hx => ⟨h,hx,fun _ h => h,fun a y h1 h2 => by omega⟩
 | j + 1,l,p,h,hx => by
  rw [stepL]
  obtain ⟨a1,a2,a3,a4⟩ := binv_addY hA hK (rowA A x.1 l).list p h hx fun y hy => mem_list.1 hy
  obtain ⟨b1,b2,b3,b4⟩ := binv_stepL hA hK j (l + 1) _ a1 a2
  have hup : ∀ z,p.1.has z = true → (addY k l (rowA A x.1 l).list p).1.has z = true := by
   intro z hz
   obtain ⟨i,q,h1,h2⟩ := (h.seen z).1 hz
   exact (a1.seen z).2 ⟨i,q,a3 i q h1,h2⟩
  refine ⟨b1,b2,fun z hz => b3 z (hup z hz),fun a y h1 h2 hy => ?_⟩
  by_cases e : a = l
  ·subst e; exact b3 y (a4 y (mem_list.2 hy))
  ·exact b4 a y (by omega) (by omega) hy
theorem binv_next {A : PA} (hA : AOk A) {s : BS} {k : Nat} {b : Int} {p : BP} (h : BInv A s k b p) (hb : b ≤ k) {x : Met} (hx : p.2[k]? = some x) (hf : A.F.has x.1 = false) : BInv A s (k + 1) (k : Int) (stepL A x.1 k A.k 0 p) := by
 have h0 : BInv A s k (k : Int) p := { h with bnd := fun j q hj => Int.le_trans (h.bnd j q hj) hb }
 obtain ⟨b1,b2,b3,b4⟩ := binv_stepL hA (Nat.le_refl k) A.k 0 p h0 hx
 refine { b1 with closed := fun i q hi hq l y hy => ?_,nofin := fun i q hi hq => ?_ }
 ·rcases Nat.lt_or_ge i k with q1 | q1
  ·exact b1.closed i q q1 hq l y hy
  ·obtain rfl : i = k := by omega
   rw [b2] at hq; injection hq with hq; subst hq
   have := b4 l y (by omega) (by have := (has_row_k hA hy).2.1; omega) hy
   obtain ⟨j,q',h1,h2⟩ := (b1.seen y).1 this
   exact ⟨j,q',h1,h2,b1.bnd j q' h1⟩
 ·rcases Nat.lt_or_ge i k with q1 | q1
  ·exact b1.nofin i q q1 hq
  ·obtain rfl : i = k := by omega
   rw [b2] at hq; injection hq with hq; subst hq; exact hf
theorem binv_start {A : PA} (hA : AOk A) {s : BS} (hs : ∀ x,s.has x = true → x < A.n) : BInv A s 0 (-1) (s,s.list.map met0) := by
 have hg : ∀ (j : Nat) (q : Met),(s.list.map met0)[j]? = some q → ∃ y,s.list[j]? = some y ∧ q = met0 y := by
  intro j q hj
  rw [List.getElem?_map,Option.map_eq_some_iff] at hj
  obtain ⟨y,h1,h2⟩ := hj
  exact ⟨y,h1,h2.symm⟩
 refine ⟨fun y => ?_,fun i j q q' hi hj e => ?_,fun j q hj => ?_,fun j q hj => ?_,fun j q hj h0 => ?_,fun j q hj h0 => ?_,fun y hy => ?_,fun i j q q' hi hj hij => ?_,fun i q hi => by omega,fun i q hi => by omega⟩
 ·simp only []
  constructor
  ·intro hy
   obtain ⟨j,hj,e⟩ := List.getElem_of_mem (mem_list.2 hy)
   exact ⟨j,met0 y,by rw [List.getElem?_map,List.getElem?_eq_getElem hj,e]; rfl,rfl⟩
  ·rintro ⟨j,q,h1,h2⟩
   obtain ⟨z,h3,rfl⟩ := hg j q h1
   have h2 : z = y := h2
   subst h2
   exact mem_list.1 (mem_of_get h3)
 ·obtain ⟨y,h1,rfl⟩ := hg i q hi
  obtain ⟨z,h2,rfl⟩ := hg j q' hj
  have e : y = z := e
  subst e
  have hnd : s.list.Pairwise (· < ·) := by unfold BS.list; exact List.Pairwise.filter _ List.pairwise_lt_range
  have := (List.getElem?_eq_some_iff.1 h1)
  have h2' := (List.getElem?_eq_some_iff.1 h2)
  obtain ⟨p1,e1⟩ := this
  obtain ⟨p2,e2⟩ := h2'
  have hp := List.pairwise_iff_getElem.1 hnd
  rcases Nat.lt_trichotomy i j with q | q | q
  ·have := hp i j p1 p2 q; omega
  ·exact q
  ·have := hp j i p2 p1 q; omega
 ·obtain ⟨y,h1,rfl⟩ := hg j q hj
  exact ⟨hs y (mem_list.1 (mem_of_get h1)),by simp [met0],by simp [met0]; omega⟩
 ·obtain ⟨y,h1,rfl⟩ := hg j q hj; simp [met0]
 ·obtain ⟨y,h1,rfl⟩ := hg j q hj; simp [met0] at h0
 ·obtain ⟨y,h1,rfl⟩ := hg j q hj; exact mem_list.1 (mem_of_get h1)
 ·obtain ⟨j,hj,e⟩ := List.getElem_of_mem (mem_list.2 hy)
  exact ⟨j,met0 y,by simp only []; rw [List.getElem?_map,List.getElem?_eq_getElem hj,e]; rfl,rfl,by simp [met0]⟩
 ·obtain ⟨y,h1,rfl⟩ := hg i q hi
  obtain ⟨z,h2,rfl⟩ := hg j q' hj
  exact Int.le_refl _
end Go.Ab.Tab
/- The program's least answers the first word. -/
namespace Go.Ab.Tab
open Go Go.Ab
set_option maxRecDepth 10000
set_option linter.unusedVariables false
set_option linter.unusedSimpArgs false
theorem nodup_le : ∀ (n : Nat) (xs : List Nat),xs.Nodup → (∀ x ∈ xs,x < n) → xs.length ≤ n
 | 0,xs,_,h => by
  cases xs with
  | nil => simp
  | cons x xs => have := h x (by simp); omega
 | n + 1,xs,hd,h => by
  have h1 := nodup_le n (xs.erase n) (hd.erase n) fun x hx => by
   have h2 := (hd.mem_erase_iff).1 hx
   have := h x h2.2
   have := h2.1
   omega
  rw [List.length_erase] at h1
  split at h1 <;> omega
theorem BInv.len {A : PA} {s : BS} {K : Nat} {b : Int} {p : BP} (h : BInv A s K b p) : p.2.length ≤ A.n := by
 have := nodup_le A.n (p.2.map (·.1)) (by
  rw [List.Nodup,List.pairwise_map,List.pairwise_iff_getElem]
  intro i j hi hj hij e
  have := h.dist i j _ _ (List.getElem?_eq_getElem hi) (List.getElem?_eq_getElem hj) e
  omega) (by
  intro x hx
  obtain ⟨q,hq,rfl⟩ := List.mem_map.1 hx
  obtain ⟨j,hj,e⟩ := List.getElem_of_mem hq
  exact (h.mok j q (by rw [List.getElem?_eq_getElem hj,e])).1)
 rwa [List.length_map] at this
theorem bfs_run {A : PA} (hA : AOk A) {s : BS} : ∀ (f k : Nat) (b : Int) (p : BP),BInv A s k b p → b ≤ k → k ≤ p.2.length → 102 ≤ f + k →
  ∃ (res : Option Nat × List Met) (T : BS) (b' : Int),bfs A f k p = some res ∧ ((∃ (kk : Nat) (q : Met),res.1 = some kk ∧ BInv A s kk b' (T,res.2) ∧ res.2[kk]? = some q ∧ A.F.has q.1 = true) ∨ (res.1 = none ∧ BInv A s res.2.length b' (T,res.2)))
 | 0,k,b,p,h,_,h2,h3 => by have := h.len; have := hA.n; omega
 | f + 1,k,b,p,h,h1,h2,h3 => by
  rw [bfs]
  cases hq : p.2[k]? with
  | none =>
   have hl : k = p.2.length := by
    rcases Nat.lt_or_ge k p.2.length with q | q
    ·rw [List.getElem?_eq_getElem q] at hq; cases hq
    ·omega
   refine ⟨(none,p.2),p.1,b,rfl,.inr ⟨rfl,?_⟩⟩
   rw [← hl]; exact h
  | some q =>
   simp only []
   cases hf : A.F.has q.1 with
   | true => exact ⟨(some k,p.2),p.1,b,rfl,.inl ⟨k,q,rfl,h,hq,hf⟩⟩
   | false =>
    simp only [Bool.false_eq_true,if_false]
    have hn := binv_next hA h h1 hq hf
    refine bfs_run hA f (k + 1) (k : Int) _ hn (by omega) ?_ (by omega)
    have := stepL_ge A q.1 k A.k 0 p
    have := (List.getElem?_eq_some_iff.1 hq).1
    omega
def dep (L : List Met) (j : Nat) : Nat := lenM L (j + 1) j
theorem lenM_stable {n : Nat} {L : List Met} (h : MOk n L) : ∀ (j f : Nat),j < f → lenM L f j = dep L j := by
 intro j
 induction j using Nat.strongRecOn with
 | ind j ih =>
  intro f hf
  obtain ⟨f,rfl⟩ : ∃ g,f = g + 1 := ⟨f - 1,by omega⟩
  unfold dep
  rw [lenM,lenM]
  cases hq : L[j]? with
  | none => rfl
  | some q =>
   simp only []
   obtain ⟨_,h1,h2⟩ := h j q hq
   split
   ·rfl
   ·rename_i h0
    rw [ih q.2.1.toNat (by omega) f (by omega),ih q.2.1.toNat (by omega) j (by omega)]
theorem dep_root {L : List Met} {j : Nat} {q : Met} (hq : L[j]? = some q) (h0 : q.2.1 < 0) : dep L j = 0 := by
 unfold dep; rw [lenM,hq]; simp only []; rw [if_pos h0]
theorem dep_step {n : Nat} {L : List Met} (h : MOk n L) {j : Nat} {q : Met} (hq : L[j]? = some q) (h0 : 0 ≤ q.2.1) : dep L j = dep L q.2.1.toNat + 1 := by
 have h2 := (h j q hq).2.2
 have e : dep L j = lenM L (j + 1) j := rfl
 rw [e,lenM,hq]; simp only []; rw [if_neg (by omega),lenM_stable h q.2.1.toNat j (by omega)]
theorem dep_lt {n : Nat} {L : List Met} (h : MOk n L) : ∀ (j : Nat) (q : Met),L[j]? = some q → dep L j ≤ j := by
 intro j
 induction j using Nat.strongRecOn with
 | ind j ih =>
  intro q hq
  obtain ⟨_,h1,h2⟩ := h j q hq
  by_cases h0 : q.2.1 < 0
  ·rw [dep_root hq h0]; omega
  ·rw [dep_step h hq (by omega)]
   have hlt : q.2.1.toNat < j := by omega
   have hl : q.2.1.toNat < L.length := by have := (List.getElem?_eq_some_iff.1 hq).1; omega
   have := ih _ hlt _ (List.getElem?_eq_getElem hl)
   omega
theorem dep_mono {A : PA} {s : BS} {K : Nat} {b : Int} {p : BP} (h : BInv A s K b p) : ∀ (j i : Nat) (q q' : Met),p.2[i]? = some q → p.2[j]? = some q' → i ≤ j → dep p.2 i ≤ dep p.2 j := by
 intro j
 induction j using Nat.strongRecOn with
 | ind j ih =>
  intro i q q' hi hj hij
  have hm := h.mono i j q q' hi hj hij
  by_cases h0 : q.2.1 < 0
  ·rw [dep_root hi h0]; omega
  ·rw [dep_step h.mok hi (by omega),dep_step h.mok hj (by omega)]
   obtain ⟨_,_,h2⟩ := h.mok j q' hj
   have hlj : q'.2.1.toNat < p.2.length := by have := (List.getElem?_eq_some_iff.1 hj).1; omega
   have hli : q.2.1.toNat < p.2.length := by omega
   have := ih q'.2.1.toNat (by omega) q.2.1.toNat _ _ (List.getElem?_eq_getElem hli) (List.getElem?_eq_getElem hlj) (by omega)
   omega
theorem dep_word {A : PA} (hA : AOk A) {s : BS} {K : Nat} {b : Int} {p : BP} (h : BInv A s K b p) : ∀ (j : Nat) (q : Met),p.2[j]? = some q → ∃ w : List Nat,w.length = dep p.2 j ∧ (runWd A s w).has q.1 = true := by
 intro j
 induction j using Nat.strongRecOn with
 | ind j ih =>
  intro q hq
  by_cases h0 : q.2.1 < 0
  ·exact ⟨[],by rw [dep_root hq h0]; rfl,h.init j q hq h0⟩
  ·obtain ⟨_,_,h2⟩ := h.mok j q hq
   obtain ⟨qf,l,h3,h4⟩ := h.from_ j q hq (by omega)
   obtain ⟨w,h5,h6⟩ := ih q.2.1.toNat (by omega) qf h3
   refine ⟨w ++ [l],by rw [dep_step h.mok hq (by omega),← h5]; simp,?_⟩
   unfold runWd at h6 ⊢
   rw [List.foldl_append,List.foldl_cons,List.foldl_nil]
   exact (has_next hA).2 ⟨qf.1,h6,h4⟩
theorem snoc_ind {P : List Nat → Prop} (h0 : P []) (h1 : ∀ w a,P w → P (w ++ [a])) : ∀ w,P w := by
 intro w
 have : ∀ v : List Nat,P v.reverse := by
  intro v
  induction v with
  | nil => exact h0
  | cons a v ih => rw [List.reverse_cons]; exact h1 _ _ ih
 have := this w.reverse
 rwa [List.reverse_reverse] at this
theorem met_short {A : PA} (hA : AOk A) {s : BS} {K : Nat} {b : Int} {p : BP} (h : BInv A s K b p) (B : Nat) (hK : ∀ (i : Nat) (q : Met),p.2[i]? = some q → dep p.2 i < B → i < K) :
  ∀ (w : List Nat),w.length ≤ B → ∀ y,(runWd A s w).has y = true → ∃ (j : Nat) (q : Met),p.2[j]? = some q ∧ q.1 = y ∧ dep p.2 j ≤ w.length := by
 refine snoc_ind ?_ ?_
 ·intro _ y hy
  obtain ⟨j,q,h1,h2,h3⟩ := h.all0 y hy
  exact ⟨j,q,h1,h2,by rw [dep_root h1 h3]; simp⟩
 ·intro w a ih hl y hy
  rw [List.length_append,List.length_singleton] at hl
  unfold runWd at hy
  rw [List.foldl_append,List.foldl_cons,List.foldl_nil] at hy
  obtain ⟨z,hz1,hz2⟩ := (has_next hA).1 hy
  obtain ⟨i,q,h1,rfl,h3⟩ := ih (by omega) z hz1
  have hi := hK i q h1 (by omega)
  obtain ⟨j,q',h4,h5,h6⟩ := h.closed i q hi h1 a y hz2
  refine ⟨j,q',h4,h5,?_⟩
  rw [List.length_append,List.length_singleton]
  by_cases h0 : q'.2.1 < 0
  ·rw [dep_root h4 h0]; omega
  ·rw [dep_step h.mok h4 (by omega)]
   have hil := (List.getElem?_eq_some_iff.1 h1).1
   have hl2 : q'.2.1.toNat < p.2.length := by omega
   have := dep_mono h i q'.2.1.toNat _ _ (List.getElem?_eq_getElem hl2) h1 (by omega)
   omega
theorem bfs_least {A : PA} (hA : AOk A) {s : BS} (hs : ∀ x,s.has x = true → x < A.n) :
  ∃ res,bfs A 102 0 (s,s.list.map met0) = some res ∧ (∀ kk,res.1 = some kk → lenM res.2 (kk + 1) kk ≤ A.n) ∧ (match leastR A s res with | none => ∀ w,¬ Acc A s w | some w => IsFirst A s w) := by
 obtain ⟨⟨r1,L⟩,T,b,h1,h2⟩ := bfs_run hA 102 0 (-1) (s,s.list.map met0) (binv_start hA hs) (by omega) (by omega) (by omega)
 refine ⟨(r1,L),h1,?_,?_⟩
 ·rintro kk rfl
  rcases h2 with ⟨k',q,e,hb,hq,hf⟩ | ⟨e,_⟩
  ·injection e with e; subst e
   have h3 := dep_lt hb.mok kk q hq
   have h4 := (List.getElem?_eq_some_iff.1 hq).1
   have h5 := hb.len
   simp only at h4 h5
   unfold dep at h3
   simp only at h3
   show lenM L (kk + 1) kk ≤ A.n
   omega
  ·cases e
 ·rcases h2 with ⟨kk,q,rfl,hb,hq,hf⟩ | ⟨rfl,hb⟩
  ·simp only [leastR]
   have hd : lenM L (kk + 1) kk = dep L kk := rfl
   rw [hd]
   obtain ⟨w,hw1,hw2⟩ := dep_word hA hb kk q hq
   have hacc : Acc A s w := (Acc_run hA).2 (endsB_iff.2 ⟨q.1,hw2,hf⟩)
   have hdn : dep L kk ≤ A.n := by
    have h3 := dep_lt hb.mok kk q hq
    have h4 := (List.getElem?_eq_some_iff.1 hq).1
    have h5 := hb.len
    simp only at h3 h4 h5
    omega
   obtain ⟨g1,g2,g3⟩ := wordL_spec hA (dep L kk) s hdn hs ⟨w,hw1,hacc⟩
   refine ⟨g2,fun v hv => ?_⟩
   rcases Nat.lt_trichotomy v.length (dep L kk) with q1 | q1 | q1
   ·exfalso
    obtain ⟨y,hy1,hy2⟩ := endsB_iff.1 ((Acc_run hA).1 hv)
    obtain ⟨j,q',e1,rfl,e3⟩ := met_short hA hb (dep L kk) (fun i q' hi hlt => by
     apply Classical.byContradiction; intro hn
     have := dep_mono hb i kk q q' hq hi (by omega)
     simp only at this hlt; omega) v (by omega) y hy1
    simp only at e3
    have hjk : j < kk := by
     apply Classical.byContradiction; intro hn
     have := dep_mono hb j kk q q' hq e1 (by omega)
     simp only at this; omega
    have := hb.nofin j q' hjk e1
    rw [hy2] at this; cases this
   ·exact .inr ⟨by rw [g1,q1],g3 v q1 hv⟩
   ·exact .inl (by rw [g1]; exact q1)
  ·simp only [leastR]
   intro v hv
   obtain ⟨y,hy1,hy2⟩ := endsB_iff.1 ((Acc_run hA).1 hv)
   obtain ⟨j,q',e1,rfl,e3⟩ := met_short hA hb v.length (fun i q' hi _ => (List.getElem?_eq_some_iff.1 hi).1) v (Nat.le_refl _) y hy1
   have := hb.nofin j q' (List.getElem?_eq_some_iff.1 e1).1 e1
   rw [hy2] at this; cases this
end Go.Ab.Tab
/- The reference's First is the first word. -/
namespace Go.Ab.Tab
open Go Go.Ab
set_option maxRecDepth 10000
set_option linter.unusedVariables false
set_option linter.unusedSimpArgs false
def slLt (v w : List Nat) : Prop := slLe v w ∧ v ≠ w
theorem slLt_le {u v w : List Nat} (h1 : slLt u v) (h2 : slLe v w) : slLt u w := ⟨slLe_trans h1.1 h2,fun e => h1.2 (slLe_antisymm h1.1 (by rw [e]; exact h2))⟩
theorem slLt_snoc {v w : List Nat} (h : slLt v w) (a b : Nat) : slLt (v ++ [a]) (w ++ [b]) := ⟨slLe_more h.1 h.2 a b,fun e => h.2 (List.append_inj' e rfl).1⟩
theorem slLt_next (w : List Nat) (a : Nat) : slLt (w ++ [a]) (w ++ [a + 1]) := ⟨slLe_snoc (slLe_refl w) (by omega),fun e => by have := (List.append_inj' e rfl).2; simp at this⟩
structure FInv (k : Nat) (ps : Aut) (x0 : List Int) (i : Nat) (p : MW) : Prop where
 vs : VSs ps.length p.1
 len : p.1.length = p.2.length
 h1 : p.1[0]? = some x0
 h2 : p.2[0]? = some []
 run : ∀ (j : Nat) l w,p.1[j]? = some l → p.2[j]? = some w → toS l = runWd (paOf k ps) (toS x0) w
 sorted : ∀ (j j' : Nat) w w',p.2[j]? = some w → p.2[j']? = some w' → j < j' → slLt w w'
 closed : ∀ (j : Nat) l w,j < i → p.1[j]? = some l → p.2[j]? = some w → ∀ a,a < k → ∃ (j' : Nat) (w' : List Nat),p.1[j']? = some (nx ps a l) ∧ p.2[j']? = some w' ∧ slLe w' (w ++ [a])
 nofin : ∀ (j : Nat) l,j < i → p.1[j]? = some l → finL ps l = false
 dist : ∀ (j j' : Nat) l,p.1[j]? = some l → p.1[j']? = some l → j = j'
def FBnd (p : MW) (b : List Nat) : Prop := ∀ (j : Nat) v,p.2[j]? = some v → slLt v b
theorem idxL_some {x : List Int} : ∀ {l : List (List Int)} {k j : Nat},idxL x k l = some j → k ≤ j ∧ l[j - k]? = some x
 | [],k,j,h => by cases h
 | y :: l,k,j,h => by
  rw [idxL] at h
  split at h
  ·rename_i e; injection h with h; subst h; subst e; exact ⟨Nat.le_refl _,by simp⟩
  ·obtain ⟨h1,h2⟩ := idxL_some h
   refine ⟨by omega,?_⟩
   obtain ⟨m,hm⟩ : ∃ m,j - k = m + 1 := ⟨j - k - 1,by omega⟩
   rw [hm,List.getElem?_cons_succ,show m = j - (k + 1) by omega]; exact h2
theorem idxL_none {x : List Int} : ∀ {l : List (List Int)} {k : Nat},idxL x k l = none → x ∉ l
 | [],k,_ => by simp
 | y :: l,k,h => by
  rw [idxL] at h
  split at h
  ·cases h
  ·rename_i e
   intro hm
   rcases List.mem_cons.1 hm with e' | hm
   ·exact e e'
   ·exact idxL_none h hm
theorem finv_add {k : Nat} {ps : Aut} (hps : AuOk k ps) {x0 : List Int} {i K : Nat} {p : MW} (h : FInv k ps x0 K p) (hK : K ≤ i) {x : List Int} {w : List Nat} (hx : p.1[i]? = some x) (hw : p.2[i]? = some w) {a : Nat} (hb : FBnd p (w ++ [a])) :
  FInv k ps x0 K (addF p (nx ps a x) (w ++ [a])) ∧ (∀ (j : Nat) l,p.1[j]? = some l → (addF p (nx ps a x) (w ++ [a])).1[j]? = some l) ∧ (∀ (j : Nat) v,p.2[j]? = some v → (addF p (nx ps a x) (w ++ [a])).2[j]? = some v) ∧ FBnd (addF p (nx ps a x) (w ++ [a])) (w ++ [a + 1]) ∧
   ∃ (j' : Nat) (w' : List Nat),(addF p (nx ps a x) (w ++ [a])).1[j']? = some (nx ps a x) ∧ (addF p (nx ps a x) (w ++ [a])).2[j']? = some w' ∧ slLe w' (w ++ [a]) := by
 have hvx := h.vs x (mem_of_get hx)
 have hil := (List.getElem?_eq_some_iff.1 hx).1
 unfold addF
 cases hi : idxL (nx ps a x) 0 p.1 with
 | some j =>
  simp only []
  obtain ⟨_,q⟩ := idxL_some hi
  rw [Nat.sub_zero] at q
  refine ⟨h,fun _ _ h => h,fun _ _ h => h,fun j v hv => slLt_le (hb j v hv) (slLt_next w a).1,?_⟩
  have hjl := (List.getElem?_eq_some_iff.1 q).1
  refine ⟨j,p.2[j]'(by rw [← h.len]; exact hjl),q,List.getElem?_eq_getElem _,(hb j _ (List.getElem?_eq_getElem _)).1⟩
 | none =>
  simp only []
  have hnew := idxL_none hi
  have hlen2 : p.1.length = p.2.length := h.len
  refine ⟨⟨fun l hl => ?_,by simp [hlen2],get_snoc h.h1,get_snoc h.h2,fun j l v hj hv => ?_,fun j j' v v' hj hj' hlt => ?_,fun j l v hj hl hv b hbk => ?_,fun j l hj hl => ?_,fun j j' l hj hj' => ?_⟩,fun j l hj => get_snoc hj,fun j v hv => get_snoc hv,fun j v hv => ?_,p.1.length,w ++ [a],get_last _ _,?_,slLe_refl _⟩
  ·rcases List.mem_append.1 hl with hl | hl
   ·exact h.vs l hl
   ·rw [List.mem_singleton.1 hl]; exact nx_vs hps a x
  ·rcases snoc_get hj with hj | ⟨e1,rfl⟩
   ·rcases snoc_get hv with hv | ⟨e2,rfl⟩
    ·exact h.run j l v hj hv
    ·have := (List.getElem?_eq_some_iff.1 hj).1; omega
   ·rcases snoc_get hv with hv | ⟨e2,rfl⟩
    ·have := (List.getElem?_eq_some_iff.1 hv).1; omega
    ·rw [toS_nx hps a hvx.below,h.run i x w hx hw]
     unfold runWd
     rw [List.foldl_append,List.foldl_cons,List.foldl_nil]
  ·rcases snoc_get hj with hj | ⟨e1,rfl⟩
   ·rcases snoc_get hj' with hj' | ⟨e2,rfl⟩
    ·exact h.sorted j j' v v' hj hj' hlt
    ·exact hb j v hj
   ·rcases snoc_get hj' with hj' | ⟨e2,rfl⟩
    ·have := (List.getElem?_eq_some_iff.1 hj').1; omega
    ·omega
  ·have hj2 : j < p.1.length := by omega
   have hl' : p.1[j]? = some l := by
    rcases snoc_get hl with hl | ⟨e,_⟩
    ·exact hl
    ·omega
   have hv' : p.2[j]? = some v := by
    rcases snoc_get hv with hv | ⟨e,_⟩
    ·exact hv
    ·omega
   obtain ⟨j',w',g1,g2,g3⟩ := h.closed j l v hj hl' hv' b hbk
   exact ⟨j',w',get_snoc g1,get_snoc g2,g3⟩
  ·rcases snoc_get hl with hl | ⟨e,_⟩
   ·exact h.nofin j l hj hl
   ·omega
  ·rcases snoc_get hj with hj | ⟨e1,rfl⟩
   ·rcases snoc_get hj' with hj' | ⟨e2,rfl⟩
    ·exact h.dist j j' l hj hj'
    ·exact absurd (mem_of_get hj) hnew
   ·rcases snoc_get hj' with hj' | ⟨e2,_⟩
    ·exact absurd (mem_of_get hj') hnew
    ·omega
  ·rcases snoc_get hv with hv | ⟨_,rfl⟩
   ·exact slLt_le (hb j v hv) (slLt_next w a).1
   ·exact slLt_next w a
  ·rw [hlen2]; exact get_last _ _
theorem finv_step {k : Nat} {ps : Aut} (hps : AuOk k ps) {x0 : List Int} {i K : Nat} {x : List Int} {w : List Nat} (hK : K ≤ i) : ∀ (m a : Nat) (p : MW),FInv k ps x0 K p → p.1[i]? = some x → p.2[i]? = some w → FBnd p (w ++ [a]) →
  FInv k ps x0 K (stepF ps x w m a p) ∧ (stepF ps x w m a p).1[i]? = some x ∧ (stepF ps x w m a p).2[i]? = some w ∧ FBnd (stepF ps x w m a p) (w ++ [a + m]) ∧ (∀ (j : Nat) l v,p.1[j]? = some l → p.2[j]? = some v → (stepF ps x w m a p).1[j]? = some l ∧ (stepF ps x w m a p).2[j]? = some v) ∧
   ∀ b,a ≤ b → b < a + m → ∃ (j' : Nat) (w' : List Nat),(stepF ps x w m a p).1[j']? = some (nx ps b x) ∧ (stepF ps x w m a p).2[j']? = some w' ∧ slLe w' (w ++ [b])
 | 0,a,p,h,hx,hw,hb => ⟨h,hx,hw,hb,fun _ _ _ h1 h2 => ⟨h1,h2⟩,fun b h1 h2 => by omega⟩
 | m + 1,a,p,h,hx,hw,hb => by
  rw [stepF]
  obtain ⟨q1,q2,q3,q4,j0,w0,q5,q6,q7⟩ := finv_add hps h hK hx hw hb
  obtain ⟨r1,r2,r3,r4,r5,r6⟩ := finv_step hps hK m (a + 1) _ q1 (q2 i x hx) (q3 i w hw) q4
  refine ⟨r1,r2,r3,by rw [show a + (m + 1) = a + 1 + m by omega]; exact r4,fun j l v g1 g2 => r5 j l v (q2 j l g1) (q3 j v g2),fun b h1 h2 => ?_⟩
  by_cases e : b = a
  ·subst e
   obtain ⟨s1,s2⟩ := r5 j0 _ _ q5 q6
   exact ⟨j0,w0,s1,s2,q7⟩
  ·exact r6 b (by omega) (by omega)
theorem finv_next {k : Nat} {ps : Aut} (hps : AuOk k ps) {x0 : List Int} {i : Nat} {x : List Int} {w : List Nat} {p : MW} (h : FInv k ps x0 i p) (hx : p.1[i]? = some x) (hw : p.2[i]? = some w) (hb : FBnd p (w ++ [0])) (hf : finL ps x = false) :
  FInv k ps x0 (i + 1) (stepF ps x w k 0 p) ∧ ∀ w',(stepF ps x w k 0 p).2[i + 1]? = some w' → FBnd (stepF ps x w k 0 p) (w' ++ [0]) := by
 obtain ⟨r1,r2,r3,r4,r5,r6⟩ := finv_step hps (Nat.le_refl i) k 0 p h hx hw hb
 refine ⟨{ r1 with closed := fun j l v hj hl hv a ha => ?_,nofin := fun j l hj hl => ?_ },fun w' hw' j v hv => ?_⟩
 ·rcases Nat.lt_or_ge j i with q | q
  ·exact r1.closed j l v q hl hv a ha
  ·obtain rfl : j = i := by omega
   rw [r2] at hl; injection hl with hl; subst hl
   rw [r3] at hv; injection hv with hv; subst hv
   exact r6 a (by omega) (by omega)
 ·rcases Nat.lt_or_ge j i with q | q
  ·exact r1.nofin j l q hl
  ·obtain rfl : j = i := by omega
   rw [r2] at hl; injection hl with hl; subst hl; exact hf
 ·have h1 := r4 j v hv
  rw [Nat.zero_add] at h1
  exact slLt_le h1 (slLt_snoc (r1.sorted i (i + 1) w w' r3 hw' (by omega)) k 0).1
theorem finv_rep {k : Nat} {ps : Aut} (hps : AuOk k ps) {x0 : List Int} {i : Nat} {p : MW} (h : FInv k ps x0 i p) :
  ∀ v : List Nat,(∀ a ∈ v,a < k) → (∃ (j : Nat) (l : List Int) (w : List Nat),p.1[j]? = some l ∧ p.2[j]? = some w ∧ toS l = runWd (paOf k ps) (toS x0) v ∧ slLe w v) ∨ ∃ (j : Nat) (w : List Nat),i ≤ j ∧ p.2[j]? = some w ∧ slLe w v := by
 refine snoc_ind ?_ ?_
 ·intro _; exact .inl ⟨0,x0,[],h.h1,h.h2,rfl,slLe_refl _⟩
 ·intro v a ih hl
  have ha := hl a (by simp)
  rcases ih (fun b hb => hl b (by simp [hb])) with ⟨j,l,w,h1,h2,h3,h4⟩ | ⟨j,w,h1,h2,h3⟩
  ·rcases Nat.lt_or_ge j i with q | q
   ·obtain ⟨j',w',g1,g2,g3⟩ := h.closed j l w q h1 h2 a ha
    refine .inl ⟨j',_,w',g1,g2,?_,slLe_trans g3 (slLe_snoc h4 (Nat.le_refl a))⟩
    rw [toS_nx hps a (h.vs l (mem_of_get h1)).below,h3]
    unfold runWd
    rw [List.foldl_append,List.foldl_cons,List.foldl_nil]
   ·exact .inr ⟨j,w,q,h2,slLe_trans h4 (slLe_pre v a)⟩
  ·exact .inr ⟨j,w,h1,h2,slLe_trans h3 (slLe_pre v a)⟩
theorem small_set {n : Nat} (hn : n ≤ 10) {u : BS} (hu : ∀ x,u.has x = true → x < n) : u.2 = 0#64 ∧ u.1.toNat < 2 ^ n := by
 obtain ⟨a,b⟩ := u
 have hb : b = 0#64 := by
  apply BitVec.eq_of_getLsbD_eq
  intro i hi
  rw [BitVec.getLsbD_zero]
  cases hg : b.getLsbD i with
  | false => rfl
  | true =>
   have : BS.has (a,b) (64 + i) = true := by unfold BS.has; rw [if_neg (by omega),Nat.add_sub_cancel_left]; exact hg
   have := hu _ this
   omega
 refine ⟨hb,?_⟩
 apply Nat.lt_pow_two_of_testBit
 intro i hi
 cases hg : a.toNat.testBit i with
 | false => rfl
 | true =>
  by_cases h64 : i < 64
  ·have : BS.has (a,b) i = true := by unfold BS.has; rw [if_pos h64]; exact hg
   have := hu _ this
   omega
  ·have : a.getLsbD i = false := BitVec.getLsbD_of_ge _ _ (by omega)
   unfold BitVec.getLsbD at this
   rw [hg] at this; cases this
theorem FInv.few {k : Nat} {ps : Aut} {x0 : List Int} {i : Nat} {p : MW} (h : FInv k ps x0 i p) (hn : ps.length ≤ 10) : p.1.length ≤ 1024 := by
 have hlt : ∀ l,VS ps.length l → ∀ x,(toS l).has x = true → x < ps.length := fun l hl x hx => toS_lt (by omega) hl.below x (mem_list.2 hx)
 have := nodup_le (2 ^ ps.length) (p.1.map fun l => (toS l).1.toNat) (by
  rw [List.Nodup,List.pairwise_map,List.pairwise_iff_getElem]
  intro i j hi hj hij e
  have v1 := h.vs _ (List.getElem_mem hi)
  have v2 := h.vs _ (List.getElem_mem hj)
  have s1 := small_set hn (hlt _ v1)
  have s2 := small_set hn (hlt _ v2)
  have e1 : toS p.1[i] = toS p.1[j] := Prod.ext (BitVec.eq_of_toNat_eq e) (s1.1.trans s2.1.symm)
  have e2 := toS_inj v1 v2 e1
  have := h.dist i j _ (List.getElem?_eq_getElem hi) (by rw [List.getElem?_eq_getElem hj,e2])
  omega) (by
  intro x hx
  obtain ⟨l,hl,rfl⟩ := List.mem_map.1 hx
  exact (small_set hn (hlt l (h.vs l hl))).2)
 rw [List.length_map] at this
 have h2 : 2 ^ ps.length ≤ 2 ^ 10 := Nat.pow_le_pow_right (by omega) hn
 omega
theorem first_run {k : Nat} {ps : Aut} (hps : AuOk k ps) (hn : ps.length ≤ 10) {x0 : List Int} : ∀ (f i : Nat) (p : MW),FInv k ps x0 i p → (∀ w,p.2[i]? = some w → FBnd p (w ++ [0])) → i ≤ p.1.length → 1100 ≤ f + i →
  ∃ o,firstR k ps f i p = some o ∧ (match o with | none => ∀ v,¬ Acc (paOf k ps) (toS x0) v | some w => IsFirst (paOf k ps) (toS x0) w)
 | 0,i,p,h,_,h2,h3 => by have := h.few hn; omega
 | f + 1,i,p,h,hb,h2,h3 => by
  have hA := hps.a
  rw [firstR]
  have hfin : ∀ {l : List Int} {v : List Nat},VS ps.length l → toS l = runWd (paOf k ps) (toS x0) v → (Acc (paOf k ps) (toS x0) v ↔ finL ps l = true) := by
   intro l v hl e
   rw [Acc_run hA,← e,← finL_ends hps.len hl.below]
  have hlet : ∀ {v : List Nat},Acc (paOf k ps) (toS x0) v → ∀ a ∈ v,a < k := by
   rintro v ⟨x,_,hx⟩
   exact AccS_letters hA hx
  cases hx : p.1[i]? with
  | none =>
   have hl : i = p.1.length := by
    rcases Nat.lt_or_ge i p.1.length with q | q
    ·rw [List.getElem?_eq_getElem q] at hx; cases hx
    ·omega
   refine ⟨none,rfl,fun v hv => ?_⟩
   rcases finv_rep hps h v (hlet hv) with ⟨j,l,w,g1,g2,g3,g4⟩ | ⟨j,w,g1,g2,_⟩
   ·have hj := (List.getElem?_eq_some_iff.1 g1).1
    have := h.nofin j l (by omega) g1
    rw [(hfin (h.vs l (mem_of_get g1)) g3).1 hv] at this; cases this
   ·have := (List.getElem?_eq_some_iff.1 g2).1
    rw [← h.len] at this; omega
  | some x =>
   have hil := (List.getElem?_eq_some_iff.1 hx).1
   obtain ⟨w,hw⟩ : ∃ w,p.2[i]? = some w := ⟨_,List.getElem?_eq_getElem (by rw [← h.len]; exact hil)⟩
   rw [hw]
   simp only []
   have hvx := h.vs x (mem_of_get hx)
   cases hf : finL ps x with
   | true =>
    rw [if_pos rfl]
    refine ⟨some w,rfl,(hfin hvx (h.run i x w hx hw)).2 hf,fun v hv => ?_⟩
    have hle : ∀ (j : Nat) w',i ≤ j → p.2[j]? = some w' → slLe w w' := by
     intro j w' hij hw'
     rcases Nat.lt_or_ge i j with q | q
     ·exact (h.sorted i j w w' hw hw' q).1
     ·obtain rfl : i = j := by omega
      rw [hw] at hw'; injection hw' with hw'; subst hw'; exact slLe_refl w
    rcases finv_rep hps h v (hlet hv) with ⟨j,l,w',g1,g2,g3,g4⟩ | ⟨j,w',g1,g2,g3⟩
    ·have hij : i ≤ j := by
      apply Classical.byContradiction; intro hn'
      have := h.nofin j l (by omega) g1
      rw [(hfin (h.vs l (mem_of_get g1)) g3).1 hv] at this; cases this
     exact slLe_trans (hle j w' hij g2) g4
    ·exact slLe_trans (hle j w' g1 g2) g3
   | false =>
    rw [if_neg (by simp)]
    obtain ⟨n1,n2⟩ := finv_next hps h hx hw (hb w hw) hf
    refine first_run hps hn f (i + 1) _ n1 n2 ?_ (by omega)
    have hge : ∀ (m a : Nat) (p : MW),p.1.length ≤ (stepF ps x w m a p).1.length := by
     intro m
     induction m with
     | zero => intro a p; exact Nat.le_refl _
     | succ m ih =>
      intro a p
      exact Nat.le_trans (addF_len p (nx ps a x) (w ++ [a])).2 (ih (a + 1) (addF p (nx ps a x) (w ++ [a])))
    have := hge k 0 p
    omega
theorem word_agree {k : Nat} {ps : Aut} (hps : AuOk k ps) (hn : ps.length ≤ 10) {x : List Int} (hx : VS ps.length x) :
  ∃ (o : Option (List Nat)) (res : Option Nat × List Met),firstR k ps 1100 0 ([x],[[]]) = some o ∧ bfs (paOf k ps) 102 0 (toS x,(toS x).list.map met0) = some res ∧ leastR (paOf k ps) (toS x) res = o ∧ ∀ kk,res.1 = some kk → lenM res.2 (kk + 1) kk ≤ (paOf k ps).n := by
 have hA := hps.a
 obtain ⟨res,r1,r2,r3⟩ := bfs_least hA (s := toS x) fun y hy => toS_lt (n := ps.length) (by omega) hx.below y (mem_list.2 hy)
 obtain ⟨o,o1,o2⟩ := first_run hps hn (x0 := x) 1100 0 ([x],[[]]) ⟨fun l hl => by rw [List.mem_singleton.1 hl]; exact hx,rfl,rfl,rfl,fun j l w hj hw => by
   rcases j with _ | j
   ·simp at hj hw; subst hj; subst hw; rfl
   ·simp at hj,fun j j' w w' hj hj' hlt => by
   have h1 := (List.getElem?_eq_some_iff.1 hj).1
   have h2 := (List.getElem?_eq_some_iff.1 hj').1
   simp at h1 h2; omega,fun j l w hj => by omega,fun j l hj => by omega,fun j j' l hj hj' => by
   have h1 := (List.getElem?_eq_some_iff.1 hj).1
   have h2 := (List.getElem?_eq_some_iff.1 hj').1
   simp at h1 h2; omega⟩ (fun w hw j v hv => by
   have h1 := (List.getElem?_eq_some_iff.1 hv).1
   rcases j with _ | j
   ·simp at hv hw; subst hv; subst hw; exact ⟨.inl (by simp),by simp⟩
   ·simp at h1) (by simp) (by omega)
 refine ⟨o,res,o1,r1,?_,r2⟩
 cases ho : o with
 | none =>
  rw [ho] at o2
  cases hl : leastR (paOf k ps) (toS x) res with
  | none => rfl
  | some w => rw [hl] at r3; exact absurd r3.acc (o2 w)
 | some v =>
  rw [ho] at o2
  cases hl : leastR (paOf k ps) (toS x) res with
  | none => rw [hl] at r3; exact absurd o2.acc (r3 v)
  | some w => rw [hl] at r3; rw [IsFirst.uniq r3 o2]
end Go.Ab.Tab
/- Law 10: DetWords. -/
namespace Go.Ab.Tab
open Go Go.Ab
set_option maxRecDepth 10000
set_option linter.unusedVariables false
set_option linter.unusedSimpArgs false
theorem faultW_bad {s : Sy} (h : isY s = false ∨ lettersF s.f = 0) (l w : List Int) : faultW s l w = if isY s then 1 else 30 := by
 unfold faultW
 cases hy : isY s with
 | false => rfl
 | true => rw [if_pos rfl,if_pos (h.resolve_left (by rw [hy]; simp)),if_pos rfl]
theorem faultW_ok {k : Nat} {ps : Aut} (hG : AuG k ps) (l w : List Int) : faultW (auY k ps) l w = if isSet ps.length l && wordOk k w then 0 else 1 := by
 unfold faultW
 rw [hG.is,if_pos rfl,hG.letters,if_neg (by have := hG.ok.kpos; omega),AuG.mlen]
theorem next_enc {k : Nat} {ps : Aut} (hG : AuG k ps) {l : List Int} (vl : VS ps.length l) (a : Int) : AV.sl 1 ((runB (paOf k ps) (toS l) [a]).list.map encN) .no = encI (nx ps a.toNat l) := by
 have e : runB (paOf k ps) (toS l) [a] = toS (nx ps a.toNat l) := by rw [toS_nx hG.ok a.toNat vl.below]; rfl
 rw [e]
 unfold encI
 conv => rhs; rw [← list_toS (nx_vs hG.ok a.toNat l)]
 rw [List.map_map]; rfl
theorem firstR_len {k : Nat} {ps : Aut} (hps : AuOk k ps) : ∀ (f i : Nat) (p : MW) (w : List Nat),firstR k ps f i p = some (some w) → MWOk ps.length i p → w.length ≤ i + f
 | 0,i,p,w,h,_ => by cases h
 | f + 1,i,p,w,h,hok => by
  rw [firstR] at h
  cases hx : p.1[i]? with
  | none => rw [hx] at h; simp at h
  | some x =>
   have hil : i < p.1.length := (List.getElem?_eq_some_iff.1 hx).1
   obtain ⟨v,hw⟩ : ∃ v,p.2[i]? = some v := ⟨_,List.getElem?_eq_getElem (by rw [← hok.len]; exact hil)⟩
   rw [hx,hw] at h
   simp only at h
   have hs := hok.short v (mem_of_get hw)
   split at h
   ·injection h with h; injection h with h; subst h; omega
   ·have := firstR_len hps f (i + 1) _ w h (stepF_ok (ps := ps) (x := x) hps rfl (show v.length + 1 ≤ i + 1 by omega) k 0 p (hok.mono (by omega)))
    omega
theorem word_ok {k : Nat} {ps : Aut} (hG : AuG k ps) (hn : ps.length ≤ 10) (l : List Int) (hl : l.length ≤ maxLen) :
  ∃ o : Option (List Nat),(∀ w,o = some w → w.length ≤ 1100) ∧ (isSet ps.length l = true → ∀ D,Go.Ab.Loc Pg Gl D 52 [encY (auY k ps),encI l] [] (rFirst o) []) ∧
   ∀ D,Go.Ab.Loc Pg Gl D 51 [encY (auY k ps),encI l] [] (if isSet ps.length l then rWord o else .tup [.sl 1 [] .no,.bool false,.int .i64 1]) [] := by
 cases hi : isSet ps.length l with
 | false =>
  refine ⟨none,fun w h => (by cases h),fun h => (Bool.false_ne_true h).elim,fun D => ?_⟩
  have := spec51_ok D k ps hG.ok hG.rl hG.is hG.fit hG.nodes l hl none (fun h => by rw [hi] at h; exact (Bool.false_ne_true h).elim)
  rw [hi] at this; exact this
 | true =>
  have vl : VS ps.length l := ⟨hi,hl,hG.ok.len⟩
  obtain ⟨o,res,o1,r1,e,r2⟩ := word_agree hG.ok hn vl
  have hk4 := hG.ok.kle
  refine ⟨o,fun w hw => ?_,fun _ D => spec52 D k ps hG.ok hG.rl l vl 1100 (by omega) o o1,fun D => ?_⟩
  ·have := firstR_len hG.ok 1100 0 ([l],[[]]) w (by rw [← hw]; exact o1) ⟨fun y hy => by rw [List.mem_singleton.1 hy]; exact vl,rfl,fun v hv => by rw [List.mem_singleton.1 hv]; simp⟩
   omega
  have := spec51_ok D k ps hG.ok hG.rl hG.is hG.fit hG.nodes l hl o (fun _ => by
   rw [← e]
   exact spec92 (D + 1) (paOf k ps) hG.ok.len (by show k ≤ 4; omega) (paOf_rl k ps) hG.w (fun r hr => by rw [paOf_w hG.ok r hr]; omega) (rowA_lt hG.ok) (toS l)
    (toS_lt (n := (paOf k ps).n) (by have := hG.ok.len; show ps.length ≤ 128; omega) vl.below) 102 (by omega) res r1 r2)
  rw [hi] at this; exact this
theorem law10_0 (s : Sy) (hf : fitF s.f) (hl : s.m.length ≤ maxLen) (hv : ∀ v ∈ s.m,fitV v) (hbn : nodesVs s.m ≤ 2 ^ 32) (set : List Int) (hset : set.length ≤ maxLen) (S) (τ : Nat → AV) (ω)
  (h1 : τ 1 = encI set) (h4 : τ 4 = .ptr 0 4 1 0) (w4 : ω 4 = (1,.cells [.int .i64 s.f.k,.int .i64 s.f.n,.sl 3 (s.f.gs.map encF) .no,.sl 3 (s.m.map encV) .no])) :
  Rd (Loc Pg Gl) .im (RetQ [.tmp 8] (.bool true) S) [.c c10_j0] (stF 170 0 τ ω S) := by
 unfold c10_j0
 have h24 := spec24 1
 have h38 := spec38 1 s hf hl hv hbn set [] hset (by simp)
 have hE := encY.eq_1 s
 by_cases hm : s.m.length ≤ 10
 ·have hm' : ¬ (10 : Int) < s.m.length := by omega
  rcases au_cases s hv hbn with hbad | ⟨k,ps,rfl,hG⟩
  ·have h51 := spec51_bad 1 s hf hl hv hbn hbad set
   have hne : (if isY s then (1 : Int) else 30) ≠ 0 := by split <;> decide
   rw [faultW_bad hbad] at h38
   generalize (if isY s then (1 : Int) else 30) = c at h38 h51 hne
   rw [hE] at h38 h51
   simp [h4,w4,hm']
   refine Rd_call h51 (by simp [h1]) ?_
   simp [h1,h4,w4]
   refine Rd_call h38 (by simp [encI]) ?_
   simp [hne]
   refine Rd_call h24 (by simp) ?_
   simp
  ·obtain ⟨o,hol,h52,h51⟩ := word_ok hG (by rw [AuG.mlen] at hm; exact hm) set hset
   have h51 := h51 1
   rw [faultW_ok hG,show wordOk k [] = true from rfl,Bool.and_true] at h38
   cases hi : isSet ps.length set with
   | false =>
    rw [hi,if_neg (by simp)] at h38 h51
    rw [hE] at h38 h51
    simp [h4,w4,hm']
    refine Rd_call h51 (by simp [h1]) ?_
    simp [h1,h4,w4]
    refine Rd_call h38 (by simp [encI]) ?_
    simp
    refine Rd_call h24 (by simp) ?_
    simp
   | true =>
    have h52 := h52 hi 1
    rw [hi,if_pos rfl] at h38 h51
    rw [hE] at h38 h51 h52
    cases o with
    | none =>
     have h19 := spec19 1 [] [] (by simp)
     rw [rWord] at h51
     rw [rFirst] at h52
     simp [h4,w4,hm']
     refine Rd_call h51 (by simp [h1]) ?_
     simp [h1,h4,w4]
     refine Rd_call h38 (by simp [encI]) ?_
     simp [h1,h4,w4]
     refine Rd_call h52 (by simp) ?_
     simp
     refine Rd_call h19 (by simp [encI]) ?_
     simp
     refine Rd_call h24 (by simp) ?_
     simp
    | some w =>
     rw [rWord] at h51
     rw [rFirst] at h52
     have hwl := hol w rfl
     have h19 := spec19 1 (w.map fun (x : Nat) => (x : Int)) (w.map fun (x : Nat) => (x : Int)) (by rw [List.length_map]; unfold maxLen; omega)
     have ew : encI (w.map fun (x : Nat) => (x : Int)) = .sl 1 (w.map encN) .no := by unfold encI; rw [List.map_map]; rfl
     rw [ew] at h19
     simp [h4,w4,hm']
     refine Rd_call h51 (by simp [h1]) ?_
     simp [h1,h4,w4]
     refine Rd_call h38 (by simp [encI]) ?_
     simp [h1,h4,w4]
     refine Rd_call h52 (by simp) ?_
     simp
     refine Rd_call h19 (by simp) ?_
     simp
     refine Rd_call h24 (by simp) ?_
     simp
 ·have hm' : (10 : Int) < s.m.length := by omega
  simp [h4,w4,hm']
  refine Rd_call h24 (by simp) ?_
  simp
theorem law10_1 (s : Sy) (hf : fitF s.f) (hl : s.m.length ≤ maxLen) (hv : ∀ v ∈ s.m,fitV v) (hbn : nodesVs s.m ≤ 2 ^ 32) (set word : List Int) (hset : set.length ≤ maxLen) (hword : word.length ≤ maxLen) (b : Bool) (e : Int)
  (hbe : (faultW s set word ≠ 0 ∧ e = faultW s set word ∧ b = false) ∨ (faultW s set word = 0 ∧ e = 0 ∧ Go.Ab.Loc Pg Gl 1 50 [encY s,encI set,encI word] [] (.bool b) [])) (S) (τ : Nat → AV) (ω)
  (h1 : τ 1 = encI set) (h2 : τ 2 = encI word) (h4 : τ 4 = .ptr 0 4 1 0) (h13 : τ 13 = .bool b) (h14 : τ 14 = .int .i64 e) (w4 : ω 4 = (1,.cells [.int .i64 s.f.k,.int .i64 s.f.n,.sl 3 (s.f.gs.map encF) .no,.sl 3 (s.m.map encV) .no])) :
  Rd (Loc Pg Gl) .im (RetQ [.tmp 8] (.bool true) S) [.c c10_j1] (stF 170 0 τ ω S) := by
 unfold c10_j1
 have h38 := spec38 1 s hf hl hv hbn set word hset hword
 have hE := encY.eq_1 s
 have fin := law10_0 s hf hl hv hbn set hset S
 rcases hbe with ⟨hne,rfl,rfl⟩ | ⟨h0,rfl,h50⟩
 ·generalize faultW s set word = e at *
  rw [hE] at h38
  simp [h1,h2,h4,w4]
  refine Rd_call h38 (by simp) ?_
  simp [hne,h13,h14]
  refine fin _ _ ?_ ?_ w4
  all_goals simp [h1,h4]
 ·rw [h0] at h38
  rw [hE] at h38 h50
  simp [h1,h2,h4,w4]
  refine Rd_call h38 (by simp) ?_
  simp [h1,h2,h4,w4,h13,h14]
  refine Rd_call h50 (by simp) ?_
  simp
  refine fin _ _ ?_ ?_ w4
  all_goals simp [h1,h4]
theorem law10_2 (s : Sy) (hf : fitF s.f) (hl : s.m.length ≤ maxLen) (hv : ∀ v ∈ s.m,fitV v) (hbn : nodesVs s.m ≤ 2 ^ 32) (set word : List Int) (letter : Int) (hset : set.length ≤ maxLen) (hword : word.length ≤ maxLen) (b : Bool) (e : Int)
  (hbe : (faultW s set word ≠ 0 ∧ e = faultW s set word ∧ b = false) ∨ (faultW s set word = 0 ∧ e = 0 ∧ Go.Ab.Loc Pg Gl 1 50 [encY s,encI set,encI word] [] (.bool b) []))
  (y : List Int) (ey : Int) (hy : y.length ≤ maxLen)
  (hbn2 : (faultW s set [letter] ≠ 0 ∧ ey = faultW s set [letter] ∧ y = []) ∨ (faultW s set [letter] = 0 ∧ ey = 0 ∧ Go.Ab.Loc Pg Gl 1 49 [encY s,encI set,.int .i64 letter] [] (encI y) [])) (S) (τ : Nat → AV) (ω)
  (h1 : τ 1 = encI set) (h2 : τ 2 = encI word) (h3 : τ 3 = .int .i64 letter) (h4 : τ 4 = .ptr 0 4 1 0) (h11 : τ 11 = encI y) (h12 : τ 12 = .int .i64 ey) (h13 : τ 13 = .bool b) (h14 : τ 14 = .int .i64 e) (w4 : ω 4 = (1,.cells [.int .i64 s.f.k,.int .i64 s.f.n,.sl 3 (s.f.gs.map encF) .no,.sl 3 (s.m.map encV) .no])) :
  Rd (Loc Pg Gl) .im (RetQ [.tmp 8] (.bool true) S) [.c c10_j2] (stF 170 0 τ ω S) := by
 unfold c10_j2
 have h38 := spec38 1 s hf hl hv hbn set [letter] hset (by simp [maxLen])
 have hE := encY.eq_1 s
 have fin := law10_1 s hf hl hv hbn set word hset hword b e hbe S
 rcases hbn2 with ⟨hne,rfl,rfl⟩ | ⟨h0,rfl,h49⟩
 ·generalize faultW s set [letter] = e at *
  rw [hE] at h38
  simp [h1,h3,h4,w4]
  refine Rd_call h38 (by simp [encI]) ?_
  simp [hne,h11,h12]
  simp [encI]
  refine fin _ _ ?_ ?_ ?_ ?_ ?_ w4
  all_goals simp [h1,h2,h4,h13,h14]
 ·have h19 := spec19 1 y y hy
  rw [h0] at h38
  rw [hE] at h38 h49
  simp [h1,h3,h4,w4]
  refine Rd_call h38 (by simp [encI]) ?_
  simp [h1,h3,h4,w4,h11,h12]
  refine Rd_call h49 (by simp) ?_
  simp
  refine Rd_call h19 (by simp) ?_
  simp
  refine fin _ _ ?_ ?_ ?_ ?_ ?_ w4
  all_goals simp [h1,h2,h4,h13,h14]
end Go.Ab.Tab
