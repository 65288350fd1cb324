import Derived.Test.YtelhpkghpoldlaaGreatE1

namespace Go.TM.Lr
open Go Go.TM Go.Proofs
set_option maxRecDepth 100000

noncomputable def E : Env where
  P := Tryz.prog
  ti := lk tiT
  mode := fun f => (lk modeT f).getD []
  keep := fun f d => ((lk keepT f).getD []).contains d
  live := fun f r => (lk liveT f).bind (fun l => lk l r)
  take := fun f d => ((lk takeT f).getD []).contains d
  ext := fun _ => none
  good := fun f => goods.contains f
  pairs := fun f r => ((lk pairsT f).bind (fun l => lk l r)).getD []
  kill := fun f r => ((lk killT f).bind (fun l => lk l r)).getD []
noncomputable abbrev fo (f : Nat) (args : List Arg) : Option Res := orc E f args
theorem E_P : E.P = Tryz.prog := rfl
theorem E_ext (f : FuncId) : E.ext f = none := rfl
theorem able : Able E := by
  have ti : TiOk E := tiOk_of (tab := tiT) rfl (by kernel_rfl)
  have g : goodsB E goods = true := by kernel_rfl
  exact ⟨ti, by kernel_rfl, fun f hf => List.all_eq_true.1 g f (by simpa [E] using hf), fun f g hg => by simp [E] at hg⟩

@[simp] theorem ti1 : E.ti 1 = some ⟨1, false, false, none, [], [], [.v .nilFunc], 8⟩ := rfl
@[simp] theorem ti2 : E.ti 2 = some ⟨1, false, true, none, [], [], [.v (.int .i64 0)], 8⟩ := rfl
@[simp] theorem ti3 : E.ti 3 = some ⟨1, false, true, none, [], [], [.v (.int .i64 0)], 8⟩ := rfl
@[simp] theorem ti4 : E.ti 4 = some ⟨1, false, false, none, [], [], [.v (.bool false)], 1⟩ := rfl
@[simp] theorem ti5 : E.ti 5 = some ⟨1, false, true, none, [], [], [.v (.int .u8 0)], 1⟩ := rfl
@[simp] theorem ti6 : E.ti 6 = some ⟨1, false, true, none, [], [], [.v (.int .u8 0)], 1⟩ := rfl
@[simp] theorem ti7 : E.ti 7 = some ⟨4, true, false, none, [(0, 1), (1, 1), (2, 1), (3, 1)], [2, 3, 4, 6], [.v (.int .i64 0), .v (.int .i64 0), .v (.bool false), .v (.int .u8 0)], 24⟩ := rfl
@[simp] theorem ti8 : E.ti 8 = some ⟨4, true, false, none, [(0, 1), (1, 1), (2, 1), (3, 1)], [2, 3, 4, 6], [.v (.int .i64 0), .v (.int .i64 0), .v (.bool false), .v (.int .u8 0)], 24⟩ := rfl
@[simp] theorem ti9 : E.ti 9 = some ⟨1, false, false, none, [], [], [.v (.string ⟨#[]⟩)], 16⟩ := rfl
@[simp] theorem ti10 : E.ti 10 = some ⟨1, false, false, none, [], [], [.v (.string ⟨#[]⟩)], 16⟩ := rfl
@[simp] theorem ti11 : E.ti 11 = some ⟨1, false, false, none, [], [], [.v (.string ⟨#[]⟩)], 16⟩ := rfl
@[simp] theorem ti12 : E.ti 12 = some ⟨1, false, true, none, [], [], [.v (.int .u64 0)], 8⟩ := rfl
@[simp] theorem ti13 : E.ti 13 = some ⟨2, true, false, none, [(0, 1), (1, 1)], [9, 12], [.v (.string ⟨#[]⟩), .v (.int .u64 0)], 24⟩ := rfl
@[simp] theorem ti14 : E.ti 14 = some ⟨2, true, false, none, [(0, 1), (1, 1)], [9, 12], [.v (.string ⟨#[]⟩), .v (.int .u64 0)], 24⟩ := rfl
@[simp] theorem ti15 : E.ti 15 = some ⟨1, false, false, none, [], [], [.v (.pointer none)], 8⟩ := rfl
@[simp] theorem ti16 : E.ti 16 = some ⟨1, false, false, none, [], [], [.v (.pointer none)], 8⟩ := rfl
@[simp] theorem ti17 : E.ti 17 = some ⟨1, false, false, none, [], [], [.v (.pointer none)], 8⟩ := rfl
@[simp] theorem ti18 : E.ti 18 = some ⟨1, true, false, none, [(0, 1)], [17], [.v (.pointer none)], 8⟩ := rfl
@[simp] theorem ti19 : E.ti 19 = some ⟨1, true, false, none, [(0, 1)], [17], [.v (.pointer none)], 8⟩ := rfl
@[simp] theorem ti20 : E.ti 20 = some ⟨1, false, false, none, [], [], [.v .nilIface], 16⟩ := rfl
@[simp] theorem ti21 : E.ti 21 = some ⟨1, false, true, none, [], [], [.v (.int .i32 0)], 4⟩ := rfl
@[simp] theorem ti22 : E.ti 22 = some ⟨1, false, false, some 120, [], [], [.own 120 []], 24⟩ := rfl
@[simp] theorem ti23 : E.ti 23 = some ⟨1, false, false, some 124, [], [], [.own 124 []], 24⟩ := rfl
@[simp] theorem ti24 : E.ti 24 = some ⟨3, true, false, none, [(0, 1), (1, 1), (2, 1)], [22, 23, 2], [.own 120 [], .own 124 [], .v (.int .i64 0)], 56⟩ := rfl
@[simp] theorem ti25 : E.ti 25 = some ⟨3, true, false, none, [(0, 1), (1, 1), (2, 1)], [22, 23, 2], [.own 120 [], .own 124 [], .v (.int .i64 0)], 56⟩ := rfl
@[simp] theorem ti26 : E.ti 26 = some ⟨1, false, false, some 103, [], [], [.own 103 []], 24⟩ := rfl
@[simp] theorem ti27 : E.ti 27 = some ⟨4, true, false, none, [(0, 3), (3, 1)], [25, 26], [.own 120 [], .own 124 [], .v (.int .i64 0), .own 103 []], 80⟩ := rfl
@[simp] theorem ti28 : E.ti 28 = some ⟨4, true, false, none, [(0, 3), (3, 1)], [25, 26], [.own 120 [], .own 124 [], .v (.int .i64 0), .own 103 []], 80⟩ := rfl
@[simp] theorem ti29 : E.ti 29 = some ⟨1, false, false, none, [], [], [.v .nilFunc], 8⟩ := rfl
@[simp] theorem ti30 : E.ti 30 = some ⟨1, false, false, none, [], [], [.v .nilFunc], 8⟩ := rfl
@[simp] theorem ti31 : E.ti 31 = some ⟨1, false, false, some 71, [], [], [.own 71 []], 24⟩ := rfl
@[simp] theorem ti32 : E.ti 32 = some ⟨1, false, false, some 67, [], [], [.own 67 []], 24⟩ := rfl
@[simp] theorem ti33 : E.ti 33 = some ⟨3, true, false, none, [(0, 1), (1, 1), (2, 1)], [31, 32, 2], [.own 71 [], .own 67 [], .v (.int .i64 0)], 56⟩ := rfl
@[simp] theorem ti34 : E.ti 34 = some ⟨3, true, false, none, [(0, 1), (1, 1), (2, 1)], [31, 32, 2], [.own 71 [], .own 67 [], .v (.int .i64 0)], 56⟩ := rfl
@[simp] theorem ti35 : E.ti 35 = some ⟨1, false, false, some 92, [], [], [.own 92 []], 24⟩ := rfl
@[simp] theorem ti36 : E.ti 36 = some ⟨4, true, false, none, [(0, 3), (3, 1)], [34, 35], [.own 71 [], .own 67 [], .v (.int .i64 0), .own 92 []], 80⟩ := rfl
@[simp] theorem ti37 : E.ti 37 = some ⟨4, true, false, none, [(0, 3), (3, 1)], [34, 35], [.own 71 [], .own 67 [], .v (.int .i64 0), .own 92 []], 80⟩ := rfl
@[simp] theorem ti38 : E.ti 38 = some ⟨1, false, false, none, [], [], [.v .nilFunc], 8⟩ := rfl
@[simp] theorem ti39 : E.ti 39 = some ⟨1, false, false, none, [], [], [.v .nilFunc], 8⟩ := rfl
@[simp] theorem ti40 : E.ti 40 = some ⟨1, false, false, none, [], [], [.v .nilFunc], 8⟩ := rfl
@[simp] theorem ti41 : E.ti 41 = some ⟨2, true, false, none, [(0, 1), (1, 1)], [2, 2], [.v (.int .i64 0), .v (.int .i64 0)], 16⟩ := rfl
@[simp] theorem ti42 : E.ti 42 = some ⟨2, true, false, none, [(0, 1), (1, 1)], [2, 2], [.v (.int .i64 0), .v (.int .i64 0)], 16⟩ := rfl
@[simp] theorem ti43 : E.ti 43 = some ⟨1, false, false, none, [], [], [.v .nilFunc], 8⟩ := rfl
@[simp] theorem ti44 : E.ti 44 = some ⟨1, false, false, none, [], [], [.v .nilFunc], 8⟩ := rfl
@[simp] theorem ti45 : E.ti 45 = some ⟨1, false, false, some 5, [], [], [.own 5 []], 24⟩ := rfl
@[simp] theorem ti46 : E.ti 46 = some ⟨2, true, false, none, [(0, 1), (1, 1)], [45, 45], [.own 5 [], .own 5 []], 48⟩ := rfl
@[simp] theorem ti47 : E.ti 47 = some ⟨2, true, false, none, [(0, 1), (1, 1)], [45, 45], [.own 5 [], .own 5 []], 48⟩ := rfl
@[simp] theorem ti48 : E.ti 48 = some ⟨6, true, false, none, [(0, 4), (4, 2)], [28, 47], [.own 120 [], .own 124 [], .v (.int .i64 0), .own 103 [], .own 5 [], .own 5 []], 128⟩ := rfl
@[simp] theorem ti49 : E.ti 49 = some ⟨6, true, false, none, [(0, 4), (4, 2)], [28, 47], [.own 120 [], .own 124 [], .v (.int .i64 0), .own 103 [], .own 5 [], .own 5 []], 128⟩ := rfl
@[simp] theorem ti50 : E.ti 50 = some ⟨1, false, false, none, [], [], [.v .nilFunc], 8⟩ := rfl
@[simp] theorem ti51 : E.ti 51 = some ⟨1, false, false, none, [], [], [.v .nilFunc], 8⟩ := rfl
@[simp] theorem ti52 : E.ti 52 = some ⟨2, true, false, none, [(0, 1), (1, 1)], [45, 45], [.own 5 [], .own 5 []], 48⟩ := rfl
@[simp] theorem ti53 : E.ti 53 = some ⟨6, true, false, none, [(0, 4), (4, 2)], [37, 52], [.own 71 [], .own 67 [], .v (.int .i64 0), .own 92 [], .own 5 [], .own 5 []], 128⟩ := rfl
@[simp] theorem ti54 : E.ti 54 = some ⟨6, true, false, none, [(0, 4), (4, 2)], [37, 52], [.own 71 [], .own 67 [], .v (.int .i64 0), .own 92 [], .own 5 [], .own 5 []], 128⟩ := rfl
@[simp] theorem ti55 : E.ti 55 = some ⟨1, false, false, none, [], [], [.v .nilFunc], 8⟩ := rfl
@[simp] theorem ti56 : E.ti 56 = some ⟨1, false, false, none, [], [], [.v .nilFunc], 8⟩ := rfl
@[simp] theorem ti57 : E.ti 57 = some ⟨1, false, false, none, [], [], [.v .nilFunc], 8⟩ := rfl
@[simp] theorem ti58 : E.ti 58 = some ⟨1, false, false, none, [], [], [.v .nilFunc], 8⟩ := rfl
@[simp] theorem ti59 : E.ti 59 = some ⟨1, false, false, none, [], [], [.v .nilFunc], 8⟩ := rfl
@[simp] theorem ti60 : E.ti 60 = some ⟨1, false, false, none, [], [], [.v .nilFunc], 8⟩ := rfl
@[simp] theorem ti61 : E.ti 61 = some ⟨1, false, false, none, [], [], [.v (.pointer none)], 8⟩ := rfl
@[simp] theorem ti62 : E.ti 62 = some ⟨1, false, false, none, [], [], [.v (.pointer none)], 8⟩ := rfl
@[simp] theorem ti63 : E.ti 63 = some ⟨1, false, false, some 2, [], [], [.own 2 []], 24⟩ := rfl
@[simp] theorem ti64 : E.ti 64 = some ⟨5, true, false, none, [(0, 1), (1, 1), (2, 1), (3, 1), (4, 1)], [2, 2, 63, 63, 63], [.v (.int .i64 0), .v (.int .i64 0), .own 2 [], .own 2 [], .own 2 []], 88⟩ := rfl
@[simp] theorem ti65 : E.ti 65 = some ⟨5, true, false, none, [(0, 1), (1, 1), (2, 1), (3, 1), (4, 1)], [2, 2, 63, 63, 63], [.v (.int .i64 0), .v (.int .i64 0), .own 2 [], .own 2 [], .own 2 []], 88⟩ := rfl
@[simp] theorem ti66 : E.ti 66 = some ⟨6, true, false, none, [(0, 1), (1, 5)], [2, 65], [.v (.int .i64 0), .v (.int .i64 0), .v (.int .i64 0), .own 2 [], .own 2 [], .own 2 []], 96⟩ := rfl
@[simp] theorem ti67 : E.ti 67 = some ⟨6, true, false, none, [(0, 1), (1, 5)], [2, 65], [.v (.int .i64 0), .v (.int .i64 0), .v (.int .i64 0), .own 2 [], .own 2 [], .own 2 []], 96⟩ := rfl
@[simp] theorem ti68 : E.ti 68 = some ⟨1, false, false, none, [], [], [.v .nilFunc], 8⟩ := rfl
@[simp] theorem ti69 : E.ti 69 = some ⟨1, false, false, some 99, [], [], [.own 99 []], 24⟩ := rfl
@[simp] theorem ti70 : E.ti 70 = some ⟨1, true, false, none, [(0, 1)], [69], [.own 99 []], 24⟩ := rfl
@[simp] theorem ti71 : E.ti 71 = some ⟨1, true, false, none, [(0, 1)], [69], [.own 99 []], 24⟩ := rfl
@[simp] theorem ti72 : E.ti 72 = some ⟨1, false, false, none, [], [], [.v (.pointer none)], 8⟩ := rfl
@[simp] theorem ti73 : E.ti 73 = some ⟨1, false, false, none, [], [], [.v .nilFunc], 8⟩ := rfl
@[simp] theorem ti74 : E.ti 74 = some ⟨1, false, false, none, [], [], [.v .nilFunc], 8⟩ := rfl
@[simp] theorem ti75 : E.ti 75 = some ⟨1, false, false, none, [], [], [.v .nilFunc], 8⟩ := rfl
@[simp] theorem ti76 : E.ti 76 = some ⟨1, false, false, none, [], [], [.v .nilFunc], 8⟩ := rfl
@[simp] theorem ti77 : E.ti 77 = some ⟨1, false, false, none, [], [], [.v .nilFunc], 8⟩ := rfl
@[simp] theorem ti78 : E.ti 78 = some ⟨1, false, false, none, [], [], [.v .nilFunc], 8⟩ := rfl
@[simp] theorem ti79 : E.ti 79 = some ⟨1, false, false, none, [], [], [.v .nilFunc], 8⟩ := rfl
@[simp] theorem ti80 : E.ti 80 = some ⟨1, false, false, none, [], [], [.v .nilFunc], 8⟩ := rfl
@[simp] theorem ti81 : E.ti 81 = some ⟨1, false, false, none, [], [], [.v .nilFunc], 8⟩ := rfl
@[simp] theorem ti82 : E.ti 82 = some ⟨1, false, false, none, [], [], [.v (.pointer none)], 8⟩ := rfl
@[simp] theorem ti83 : E.ti 83 = some ⟨1, false, false, none, [], [], [.v .nilFunc], 8⟩ := rfl
@[simp] theorem ti84 : E.ti 84 = some ⟨1, false, false, none, [], [], [.v .nilFunc], 8⟩ := rfl
@[simp] theorem ti85 : E.ti 85 = some ⟨1, false, false, none, [], [], [.v .nilFunc], 8⟩ := rfl
@[simp] theorem ti86 : E.ti 86 = some ⟨1, false, false, none, [], [], [.v .nilFunc], 8⟩ := rfl
@[simp] theorem ti87 : E.ti 87 = some ⟨1, false, false, none, [], [], [.v .nilFunc], 8⟩ := rfl
@[simp] theorem ti88 : E.ti 88 = some ⟨1, false, false, none, [], [], [.v .nilFunc], 8⟩ := rfl
@[simp] theorem ti89 : E.ti 89 = some ⟨1, false, false, none, [], [], [.v .nilFunc], 8⟩ := rfl
@[simp] theorem ti90 : E.ti 90 = some ⟨1, false, false, none, [], [], [.v (.pointer none)], 8⟩ := rfl
@[simp] theorem ti91 : E.ti 91 = some ⟨3, true, false, none, [(0, 1), (1, 1), (2, 1)], [2, 2, 2], [.v (.int .i64 0), .v (.int .i64 0), .v (.int .i64 0)], 24⟩ := rfl
@[simp] theorem ti92 : E.ti 92 = some ⟨3, true, false, none, [(0, 1), (1, 1), (2, 1)], [2, 2, 2], [.v (.int .i64 0), .v (.int .i64 0), .v (.int .i64 0)], 24⟩ := rfl
@[simp] theorem ti93 : E.ti 93 = some ⟨1, false, false, none, [], [], [.v .nilFunc], 8⟩ := rfl
@[simp] theorem ti94 : E.ti 94 = some ⟨1, false, false, none, [], [], [.v .nilFunc], 8⟩ := rfl
@[simp] theorem ti95 : E.ti 95 = some ⟨1, false, false, none, [], [], [.v .nilFunc], 8⟩ := rfl
@[simp] theorem ti96 : E.ti 96 = some ⟨1, false, false, none, [], [], [.v .nilFunc], 8⟩ := rfl
@[simp] theorem ti97 : E.ti 97 = some ⟨1, false, false, some 201, [], [], [.own 201 []], 24⟩ := rfl
@[simp] theorem ti98 : E.ti 98 = some ⟨6, true, false, none, [(0, 1), (1, 1), (2, 1), (3, 1), (4, 1), (5, 1)], [2, 2, 9, 2, 97, 97], [.v (.int .i64 0), .v (.int .i64 0), .v (.string ⟨#[]⟩), .v (.int .i64 0), .own 201 [], .own 201 []], 88⟩ := rfl
@[simp] theorem ti99 : E.ti 99 = some ⟨6, true, false, none, [(0, 1), (1, 1), (2, 1), (3, 1), (4, 1), (5, 1)], [2, 2, 9, 2, 97, 97], [.v (.int .i64 0), .v (.int .i64 0), .v (.string ⟨#[]⟩), .v (.int .i64 0), .own 201 [], .own 201 []], 88⟩ := rfl
@[simp] theorem ti100 : E.ti 100 = some ⟨1, false, false, none, [], [], [.v .nilFunc], 8⟩ := rfl
@[simp] theorem ti101 : E.ti 101 = some ⟨1, false, false, none, [], [], [.v .nilFunc], 8⟩ := rfl
@[simp] theorem ti102 : E.ti 102 = some ⟨1, false, false, none, [], [], [.v .nilFunc], 8⟩ := rfl
@[simp] theorem ti103 : E.ti 103 = some ⟨3, true, false, none, [(0, 1), (1, 1), (2, 1)], [2, 2, 2], [.v (.int .i64 0), .v (.int .i64 0), .v (.int .i64 0)], 24⟩ := rfl
@[simp] theorem ti104 : E.ti 104 = some ⟨1, false, false, none, [], [], [.v .nilFunc], 8⟩ := rfl
@[simp] theorem ti105 : E.ti 105 = some ⟨1, false, false, none, [], [], [.v .nilFunc], 8⟩ := rfl
@[simp] theorem ti106 : E.ti 106 = some ⟨1, false, false, none, [], [], [.v .nilFunc], 8⟩ := rfl
@[simp] theorem ti107 : E.ti 107 = some ⟨1, false, false, none, [], [], [.v .nilFunc], 8⟩ := rfl
@[simp] theorem ti108 : E.ti 108 = some ⟨1, false, false, none, [], [], [.v .nilFunc], 8⟩ := rfl
@[simp] theorem ti109 : E.ti 109 = some ⟨1, false, false, none, [], [], [.v .nilFunc], 8⟩ := rfl
@[simp] theorem ti110 : E.ti 110 = some ⟨1, false, false, none, [], [], [.v .nilFunc], 8⟩ := rfl
@[simp] theorem ti111 : E.ti 111 = some ⟨1, false, false, none, [], [], [.v .nilFunc], 8⟩ := rfl
@[simp] theorem ti112 : E.ti 112 = some ⟨1, false, false, none, [], [], [.v .nilFunc], 8⟩ := rfl
@[simp] theorem ti113 : E.ti 113 = some ⟨1, false, false, none, [], [], [.v (.pointer none)], 8⟩ := rfl
@[simp] theorem ti114 : E.ti 114 = some ⟨1, false, false, none, [], [], [.v .nilFunc], 8⟩ := rfl
@[simp] theorem ti115 : E.ti 115 = some ⟨1, false, false, none, [], [], [.v .nilFunc], 8⟩ := rfl
@[simp] theorem ti116 : E.ti 116 = some ⟨1, false, false, none, [], [], [.v .nilFunc], 8⟩ := rfl
@[simp] theorem ti117 : E.ti 117 = some ⟨1, false, false, none, [], [], [.v .nilFunc], 8⟩ := rfl
@[simp] theorem ti118 : E.ti 118 = some ⟨1, false, false, some 162, [], [], [.own 162 []], 24⟩ := rfl
@[simp] theorem ti119 : E.ti 119 = some ⟨1, true, false, none, [(0, 1)], [118], [.own 162 []], 24⟩ := rfl
@[simp] theorem ti120 : E.ti 120 = some ⟨1, true, false, none, [(0, 1)], [118], [.own 162 []], 24⟩ := rfl
@[simp] theorem ti121 : E.ti 121 = some ⟨1, false, false, none, [], [], [.v .nilFunc], 8⟩ := rfl
@[simp] theorem ti122 : E.ti 122 = some ⟨5, true, false, none, [(0, 1), (1, 1), (2, 1), (3, 1), (4, 1)], [2, 2, 63, 63, 63], [.v (.int .i64 0), .v (.int .i64 0), .own 2 [], .own 2 [], .own 2 []], 88⟩ := rfl
@[simp] theorem ti123 : E.ti 123 = some ⟨6, true, false, none, [(0, 1), (1, 5)], [2, 122], [.v (.int .i64 0), .v (.int .i64 0), .v (.int .i64 0), .own 2 [], .own 2 [], .own 2 []], 96⟩ := rfl
@[simp] theorem ti124 : E.ti 124 = some ⟨6, true, false, none, [(0, 1), (1, 5)], [2, 122], [.v (.int .i64 0), .v (.int .i64 0), .v (.int .i64 0), .own 2 [], .own 2 [], .own 2 []], 96⟩ := rfl
@[simp] theorem ti125 : E.ti 125 = some ⟨1, false, false, none, [], [], [.v .nilFunc], 8⟩ := rfl
@[simp] theorem ti126 : E.ti 126 = some ⟨1, false, false, none, [], [], [.v .nilFunc], 8⟩ := rfl
@[simp] theorem ti127 : E.ti 127 = some ⟨1, false, false, none, [], [], [.v .nilFunc], 8⟩ := rfl
@[simp] theorem ti128 : E.ti 128 = some ⟨1, false, false, none, [], [], [.v .nilFunc], 8⟩ := rfl
@[simp] theorem ti129 : E.ti 129 = some ⟨1, false, false, none, [], [], [.v .nilFunc], 8⟩ := rfl
@[simp] theorem ti130 : E.ti 130 = some ⟨1, false, false, none, [], [], [.v .nilFunc], 8⟩ := rfl
@[simp] theorem ti131 : E.ti 131 = some ⟨1, false, false, none, [], [], [.v .nilFunc], 8⟩ := rfl
@[simp] theorem ti132 : E.ti 132 = some ⟨1, false, false, none, [], [], [.v .nilFunc], 8⟩ := rfl
@[simp] theorem ti133 : E.ti 133 = some ⟨1, false, false, none, [], [], [.v .nilFunc], 8⟩ := rfl
@[simp] theorem ti134 : E.ti 134 = some ⟨1, false, false, none, [], [], [.v .nilFunc], 8⟩ := rfl
@[simp] theorem ti135 : E.ti 135 = some ⟨1, false, false, some 9, [], [], [.own 9 []], 24⟩ := rfl
@[simp] theorem ti137 : E.ti 137 = some ⟨1, false, false, none, [], [], [.v .nilFunc], 8⟩ := rfl
@[simp] theorem ti139 : E.ti 139 = some ⟨1, false, false, none, [], [], [.v .nilFunc], 8⟩ := rfl
@[simp] theorem ti140 : E.ti 140 = some ⟨1, false, false, none, [], [], [.v .nilFunc], 8⟩ := rfl
@[simp] theorem ti141 : E.ti 141 = some ⟨1, false, false, none, [], [], [.v .nilFunc], 8⟩ := rfl
@[simp] theorem ti142 : E.ti 142 = some ⟨1, false, false, none, [], [], [.v .nilFunc], 8⟩ := rfl
@[simp] theorem ti143 : E.ti 143 = some ⟨1, false, false, none, [], [], [.v .nilFunc], 8⟩ := rfl
@[simp] theorem ti144 : E.ti 144 = some ⟨1, false, false, none, [], [], [.v .nilFunc], 8⟩ := rfl
@[simp] theorem ti145 : E.ti 145 = some ⟨1, false, false, none, [], [], [.v .nilFunc], 8⟩ := rfl
@[simp] theorem ti146 : E.ti 146 = some ⟨1, false, false, none, [], [], [.v .nilFunc], 8⟩ := rfl
@[simp] theorem ti147 : E.ti 147 = some ⟨1, false, false, none, [], [], [.v .nilFunc], 8⟩ := rfl
@[simp] theorem ti148 : E.ti 148 = some ⟨1, false, false, none, [], [], [.v (.pointer none)], 8⟩ := rfl
@[simp] theorem ti149 : E.ti 149 = some ⟨6, true, false, none, [(0, 1), (1, 5)], [69, 65], [.own 99 [], .v (.int .i64 0), .v (.int .i64 0), .own 2 [], .own 2 [], .own 2 []], 112⟩ := rfl
@[simp] theorem ti150 : E.ti 150 = some ⟨6, true, false, none, [(0, 1), (1, 5)], [69, 65], [.own 99 [], .v (.int .i64 0), .v (.int .i64 0), .own 2 [], .own 2 [], .own 2 []], 112⟩ := rfl
@[simp] theorem ti151 : E.ti 151 = some ⟨1, false, false, none, [], [], [.v .nilFunc], 8⟩ := rfl
@[simp] theorem ti152 : E.ti 152 = some ⟨1, false, false, some 3, [], [], [.own 3 []], 24⟩ := rfl
@[simp] theorem ti153 : E.ti 153 = some ⟨1, false, false, none, [], [], [.v .nilFunc], 8⟩ := rfl
@[simp] theorem ti154 : E.ti 154 = some ⟨1, false, false, none, [], [], [.v .nilFunc], 8⟩ := rfl
@[simp] theorem ti156 : E.ti 156 = some ⟨1, false, false, none, [], [], [.v .nilFunc], 8⟩ := rfl
@[simp] theorem ti158 : E.ti 158 = some ⟨1, false, false, none, [], [], [.v .nilFunc], 8⟩ := rfl
@[simp] theorem ti159 : E.ti 159 = some ⟨1, false, false, none, [], [], [.v .nilFunc], 8⟩ := rfl
@[simp] theorem ti160 : E.ti 160 = some ⟨1, false, false, some 206, [], [], [.own 206 []], 24⟩ := rfl
@[simp] theorem ti161 : E.ti 161 = some ⟨6, true, false, none, [(0, 1), (1, 1), (2, 1), (3, 1), (4, 1), (5, 1)], [2, 2, 9, 2, 160, 160], [.v (.int .i64 0), .v (.int .i64 0), .v (.string ⟨#[]⟩), .v (.int .i64 0), .own 206 [], .own 206 []], 88⟩ := rfl
@[simp] theorem ti162 : E.ti 162 = some ⟨6, true, false, none, [(0, 1), (1, 1), (2, 1), (3, 1), (4, 1), (5, 1)], [2, 2, 9, 2, 160, 160], [.v (.int .i64 0), .v (.int .i64 0), .v (.string ⟨#[]⟩), .v (.int .i64 0), .own 206 [], .own 206 []], 88⟩ := rfl
@[simp] theorem ti163 : E.ti 163 = some ⟨1, false, false, none, [], [], [.v .nilFunc], 8⟩ := rfl
@[simp] theorem ti164 : E.ti 164 = some ⟨1, false, false, none, [], [], [.v .nilFunc], 8⟩ := rfl
@[simp] theorem ti165 : E.ti 165 = some ⟨1, false, false, none, [], [], [.v .nilFunc], 8⟩ := rfl
@[simp] theorem ti166 : E.ti 166 = some ⟨1, false, false, none, [], [], [.v .nilFunc], 8⟩ := rfl
@[simp] theorem ti167 : E.ti 167 = some ⟨1, false, false, none, [], [], [.v .nilFunc], 8⟩ := rfl
@[simp] theorem ti168 : E.ti 168 = some ⟨1, false, false, none, [], [], [.v .nilFunc], 8⟩ := rfl
@[simp] theorem ti169 : E.ti 169 = some ⟨1, false, false, none, [], [], [.v (.pointer none)], 8⟩ := rfl
@[simp] theorem ti170 : E.ti 170 = some ⟨2, true, false, none, [(0, 1), (1, 1)], [63, 63], [.own 2 [], .own 2 []], 48⟩ := rfl
@[simp] theorem ti171 : E.ti 171 = some ⟨2, true, false, none, [(0, 1), (1, 1)], [63, 63], [.own 2 [], .own 2 []], 48⟩ := rfl
@[simp] theorem ti172 : E.ti 172 = some ⟨1, false, false, none, [], [], [.v .nilFunc], 8⟩ := rfl
@[simp] theorem ti173 : E.ti 173 = some ⟨1, false, false, none, [], [], [.v .nilFunc], 8⟩ := rfl
@[simp] theorem ti174 : E.ti 174 = some ⟨1, false, false, none, [], [], [.v .nilFunc], 8⟩ := rfl
@[simp] theorem ti175 : E.ti 175 = some ⟨1, false, false, none, [], [], [.v .nilFunc], 8⟩ := rfl
@[simp] theorem ti176 : E.ti 176 = some ⟨1, false, false, none, [], [], [.v .nilFunc], 8⟩ := rfl
@[simp] theorem ti177 : E.ti 177 = some ⟨1, false, false, none, [], [], [.v .nilFunc], 8⟩ := rfl
@[simp] theorem ti178 : E.ti 178 = some ⟨1, false, false, none, [], [], [.v .nilFunc], 8⟩ := rfl
@[simp] theorem ti179 : E.ti 179 = some ⟨1, false, false, none, [], [], [.v .nilFunc], 8⟩ := rfl
@[simp] theorem ti180 : E.ti 180 = some ⟨1, false, false, none, [], [], [.v (.pointer none)], 8⟩ := rfl
@[simp] theorem ti181 : E.ti 181 = some ⟨1, false, false, none, [], [], [.v .nilFunc], 8⟩ := rfl
@[simp] theorem ti182 : E.ti 182 = some ⟨1, false, false, none, [], [], [.v .nilFunc], 8⟩ := rfl
@[simp] theorem ti183 : E.ti 183 = some ⟨1, false, false, none, [], [], [.v .nilFunc], 8⟩ := rfl
@[simp] theorem ti184 : E.ti 184 = some ⟨1, false, false, none, [], [], [.v .nilFunc], 8⟩ := rfl
@[simp] theorem ti186 : E.ti 186 = some ⟨1, false, false, none, [], [], [.v .nilFunc], 8⟩ := rfl
@[simp] theorem ti187 : E.ti 187 = some ⟨1, false, false, none, [], [], [.v .nilFunc], 8⟩ := rfl
@[simp] theorem ti188 : E.ti 188 = some ⟨1, false, false, none, [], [], [.v .nilFunc], 8⟩ := rfl
@[simp] theorem ti189 : E.ti 189 = some ⟨1, false, false, none, [], [], [.v .nilFunc], 8⟩ := rfl
@[simp] theorem ti190 : E.ti 190 = some ⟨1, false, false, none, [], [], [.v .nilFunc], 8⟩ := rfl
@[simp] theorem ti191 : E.ti 191 = some ⟨1, false, false, none, [], [], [.v .nilFunc], 8⟩ := rfl
@[simp] theorem ti192 : E.ti 192 = some ⟨1, false, false, none, [], [], [.v .nilFunc], 8⟩ := rfl
@[simp] theorem ti193 : E.ti 193 = some ⟨1, false, false, none, [], [], [.v .nilFunc], 8⟩ := rfl
@[simp] theorem ti194 : E.ti 194 = some ⟨1, false, false, none, [], [], [.v .nilFunc], 8⟩ := rfl
@[simp] theorem ti195 : E.ti 195 = some ⟨1, false, false, none, [], [], [.v .nilFunc], 8⟩ := rfl
@[simp] theorem ti196 : E.ti 196 = some ⟨1, false, false, none, [], [], [.v .nilFunc], 8⟩ := rfl
@[simp] theorem ti197 : E.ti 197 = some ⟨1, false, true, none, [], [], [.v (.int .u64 0)], 8⟩ := rfl
@[simp] theorem ti198 : E.ti 198 = some ⟨1, false, false, none, [], [], [.v .nilFunc], 8⟩ := rfl
@[simp] theorem ti199 : E.ti 199 = some ⟨1, false, false, none, [], [], [.v (.pointer none)], 8⟩ := rfl
@[simp] theorem ti200 : E.ti 200 = some ⟨4, true, false, none, [(0, 1), (1, 1), (2, 1), (3, 1)], [2, 2, 2, 2], [.v (.int .i64 0), .v (.int .i64 0), .v (.int .i64 0), .v (.int .i64 0)], 32⟩ := rfl
@[simp] theorem ti201 : E.ti 201 = some ⟨4, true, false, none, [(0, 1), (1, 1), (2, 1), (3, 1)], [2, 2, 2, 2], [.v (.int .i64 0), .v (.int .i64 0), .v (.int .i64 0), .v (.int .i64 0)], 32⟩ := rfl
@[simp] theorem ti202 : E.ti 202 = some ⟨1, false, false, none, [], [], [.v .nilFunc], 8⟩ := rfl
@[simp] theorem ti204 : E.ti 204 = some ⟨1, false, false, none, [], [], [.v .nilFunc], 8⟩ := rfl
@[simp] theorem ti205 : E.ti 205 = some ⟨1, false, false, none, [], [], [.v .nilFunc], 8⟩ := rfl
@[simp] theorem ti206 : E.ti 206 = some ⟨4, true, false, none, [(0, 1), (1, 1), (2, 1), (3, 1)], [2, 2, 2, 2], [.v (.int .i64 0), .v (.int .i64 0), .v (.int .i64 0), .v (.int .i64 0)], 32⟩ := rfl
@[simp] theorem ti207 : E.ti 207 = some ⟨1, false, false, none, [], [], [.v .nilFunc], 8⟩ := rfl
@[simp] theorem ti208 : E.ti 208 = some ⟨1, false, false, none, [], [], [.v .nilFunc], 8⟩ := rfl
@[simp] theorem ti209 : E.ti 209 = some ⟨1, false, false, none, [], [], [.v .nilFunc], 8⟩ := rfl
@[simp] theorem ti210 : E.ti 210 = some ⟨4, true, false, none, [(0, 1), (1, 1), (2, 1), (3, 1)], [17, 17, 17, 9], [.v (.pointer none), .v (.pointer none), .v (.pointer none), .v (.string ⟨#[]⟩)], 40⟩ := rfl
@[simp] theorem ti211 : E.ti 211 = some ⟨4, true, false, none, [(0, 1), (1, 1), (2, 1), (3, 1)], [17, 17, 17, 9], [.v (.pointer none), .v (.pointer none), .v (.pointer none), .v (.string ⟨#[]⟩)], 40⟩ := rfl
@[simp] theorem ti212 : E.ti 212 = some ⟨0, true, false, none, [], [], [], 0⟩ := rfl
@[simp] theorem ti213 : E.ti 213 = some ⟨0, true, false, none, [(0, 0)], [212], [], 0⟩ := rfl
@[simp] theorem ti214 : E.ti 214 = some ⟨0, true, false, none, [(0, 0)], [212], [], 0⟩ := rfl
@[simp] theorem ti215 : E.ti 215 = some ⟨1, false, false, none, [], [], [.v .nilFunc], 8⟩ := rfl
@[simp] theorem ti216 : E.ti 216 = some ⟨1, false, true, none, [], [], [.v (.int .u32 0)], 4⟩ := rfl
@[simp] theorem ti217 : E.ti 217 = some ⟨1, false, true, none, [], [], [.v (.int .u8 0)], 1⟩ := rfl
@[simp] theorem ti218 : E.ti 218 = some ⟨1, false, true, none, [], [], [.v (.int .u8 0)], 1⟩ := rfl
@[simp] theorem ti219 : E.ti 219 = some ⟨1, false, false, none, [], [], [.v .nilFunc], 8⟩ := rfl
@[simp] theorem ti220 : E.ti 220 = some ⟨1, false, false, none, [], [], [.v (.pointer none)], 8⟩ := rfl
@[simp] theorem ti221 : E.ti 221 = some ⟨1, false, true, none, [], [], [.v (.int .i32 0)], 4⟩ := rfl
@[simp] theorem ti222 : E.ti 222 = some ⟨1, false, true, none, [], [], [.v (.int .i32 0)], 4⟩ := rfl
@[simp] theorem ti223 : E.ti 223 = some ⟨11, true, false, none, [(0, 1), (1, 1), (2, 1), (3, 1), (4, 1), (5, 1), (6, 1), (7, 1), (8, 1), (9, 1), (10, 1)], [12, 12, 216, 217, 5, 5, 218, 219, 220, 221, 222], [.v (.int .u64 0), .v (.int .u64 0), .v (.int .u32 0), .v (.int .u8 0), .v (.int .u8 0), .v (.int .u8 0), .v (.int .u8 0), .v .nilFunc, .v (.pointer none), .v (.int .i32 0), .v (.int .i32 0)], 48⟩ := rfl
@[simp] theorem ti224 : E.ti 224 = some ⟨11, true, false, none, [(0, 1), (1, 1), (2, 1), (3, 1), (4, 1), (5, 1), (6, 1), (7, 1), (8, 1), (9, 1), (10, 1)], [12, 12, 216, 217, 5, 5, 218, 219, 220, 221, 222], [.v (.int .u64 0), .v (.int .u64 0), .v (.int .u32 0), .v (.int .u8 0), .v (.int .u8 0), .v (.int .u8 0), .v (.int .u8 0), .v .nilFunc, .v (.pointer none), .v (.int .i32 0), .v (.int .i32 0)], 48⟩ := rfl
@[simp] theorem ti225 : E.ti 225 = some ⟨1, false, false, none, [], [], [.v .nilFunc], 8⟩ := rfl
@[simp] theorem ti226 : E.ti 226 = some ⟨1, false, false, none, [], [], [.v .nilFunc], 8⟩ := rfl
@[simp] theorem ti227 : E.ti 227 = some ⟨1, false, false, none, [], [], [.v .nilFunc], 8⟩ := rfl
@[simp] theorem ti228 : E.ti 228 = some ⟨1, false, false, none, [], [], [.v .nilFunc], 8⟩ := rfl
@[simp] theorem kill_3 (r : Nat) : E.kill (3 : Nat) r = (lk [(0, [[0], [2]]), (1, [[]]), (2, [[], [], [7, 8], [9]]), (3, [[3], [10]]), (4, [[]]), (5, [[], [12], [13], [14]]), (6, [[], [15], [999999], [16]]), (7, [[], [17], [18]]), (8, [[6], [4], [19, 20]]), (9, [[]]), (11, [[]]), (12, [[]])] r).getD [] := rfl
@[simp] theorem live_3 (r : Nat) : E.live (3 : Nat) r = lk [(0, [1], [0, 1]), (1, [1, 3], [0, 1, 3, 9]), (2, [1, 3], [0, 1, 3, 9]), (3, [1, 11], [0, 1, 11]), (4, [2], [2]), (5, [1, 4], [0, 1, 4, 14]), (6, [1, 4, 5], [0, 1, 4, 5, 14, 16]), (7, [1, 4, 5, 6], [0, 1, 4, 5, 6, 14, 16, 18]), (8, [1, 5, 21], [0, 1, 5, 16, 21]), (9, [2], [2]), (10, [26], [26]), (11, [2], [2]), (12, [2], [2])] r := rfl
@[simp] theorem pairs_3 (r : Nat) : E.pairs (3 : Nat) r = (lk [(10, [(0, 2)])] r).getD [] := rfl
@[simp] theorem mode_3 : E.mode (3 : Nat) = [] := rfl
@[simp] theorem keep_3 (d : Nat) : E.keep (3 : Nat) d = ([] : List Nat).contains d := rfl
@[simp] theorem take_3 (d : Nat) : E.take (3 : Nat) d = ([] : List Nat).contains d := rfl
theorem orc_3 {args : List Arg} {r : Res} (n : Nat) (h : evBody E (orc E) n (3 : Nat) Tryz.f3 args = some r) : fo 3 args = some r := orc_body n rfl rfl Tryz.func3 h
@[simp] theorem kill_4 (r : Nat) : E.kill (4 : Nat) r = (lk [(0, [[0], [2]]), (1, [[]]), (2, [[], [], [7, 8], [9]]), (3, [[3], [10]]), (4, [[]]), (5, [[], [12], [13], [], [14]]), (6, [[], [15], [999999], [16]]), (7, [[], [17], [], [18]]), (8, [[6], [4], [19, 20], [21]]), (9, [[]]), (11, [[]]), (12, [[]])] r).getD [] := rfl
@[simp] theorem live_4 (r : Nat) : E.live (4 : Nat) r = lk [(0, [1], [0, 1]), (1, [1, 3], [0, 1, 3, 9]), (2, [1, 3], [0, 1, 3, 9]), (3, [1, 11], [0, 1, 11]), (4, [2], [2]), (5, [1, 4], [0, 1, 4, 14]), (6, [1, 4, 5], [0, 1, 4, 5, 14, 16]), (7, [1, 4, 5, 6], [0, 1, 4, 5, 6, 14, 16, 18]), (8, [1, 5, 22], [0, 1, 5, 16, 22]), (9, [2], [2]), (10, [27], [27]), (11, [2], [2]), (12, [2], [2])] r := rfl
@[simp] theorem pairs_4 (r : Nat) : E.pairs (4 : Nat) r = (lk [(10, [(0, 2)])] r).getD [] := rfl
@[simp] theorem mode_4 : E.mode (4 : Nat) = [] := rfl
@[simp] theorem keep_4 (d : Nat) : E.keep (4 : Nat) d = ([] : List Nat).contains d := rfl
@[simp] theorem take_4 (d : Nat) : E.take (4 : Nat) d = ([] : List Nat).contains d := rfl
theorem orc_4 {args : List Arg} {r : Res} (n : Nat) (h : evBody E (orc E) n (4 : Nat) Tryz.f4 args = some r) : fo 4 args = some r := orc_body n rfl rfl Tryz.func4 h
@[simp] theorem kill_5 (r : Nat) : E.kill (5 : Nat) r = (lk [(0, [[0], [2]]), (1, [[]]), (2, [[], [], [7, 8], [9]]), (3, [[3], [10]]), (4, [[]]), (5, [[], [12], [13], [14]]), (6, [[], [15], [999999], [16]]), (7, [[], [17], [18]]), (8, [[6], [4], [19, 20]]), (9, [[]]), (11, [[]]), (12, [[]])] r).getD [] := rfl
@[simp] theorem live_5 (r : Nat) : E.live (5 : Nat) r = lk [(0, [1], [0, 1]), (1, [1, 3], [0, 1, 3, 9]), (2, [1, 3], [0, 1, 3, 9]), (3, [1, 11], [0, 1, 11]), (4, [2], [2]), (5, [1, 4], [0, 1, 4, 14]), (6, [1, 4, 5], [0, 1, 4, 5, 14, 16]), (7, [1, 4, 5, 6], [0, 1, 4, 5, 6, 14, 16, 18]), (8, [1, 5, 21], [0, 1, 5, 16, 21]), (9, [2], [2]), (10, [26], [26]), (11, [2], [2]), (12, [2], [2])] r := rfl
@[simp] theorem pairs_5 (r : Nat) : E.pairs (5 : Nat) r = (lk [(10, [(0, 2)])] r).getD [] := rfl
@[simp] theorem mode_5 : E.mode (5 : Nat) = [] := rfl
@[simp] theorem keep_5 (d : Nat) : E.keep (5 : Nat) d = ([] : List Nat).contains d := rfl
@[simp] theorem take_5 (d : Nat) : E.take (5 : Nat) d = ([] : List Nat).contains d := rfl
theorem orc_5 {args : List Arg} {r : Res} (n : Nat) (h : evBody E (orc E) n (5 : Nat) Tryz.f5 args = some r) : fo 5 args = some r := orc_body n rfl rfl Tryz.func5 h
@[simp] theorem kill_6 (r : Nat) : E.kill (6 : Nat) r = (lk [(0, [[0], [4]]), (1, [[], [5], [], [6, 7], [8]]), (2, [[], [9]]), (3, [[]]), (4, [[2], [11], [], [12, 13], [14]]), (5, [[], [15]]), (6, [[]]), (7, [[1], [17]])] r).getD [] := rfl
@[simp] theorem live_6 (r : Nat) : E.live (6 : Nat) r = lk [(0, [1, 2], [0, 1, 2, 8, 14]), (1, [1, 2], [0, 1, 2, 8, 14]), (2, [1, 2, 10], [0, 1, 2, 8, 10, 14]), (3, [4], [1, 4, 8, 14, 17]), (4, [1], [1, 8, 14]), (5, [1, 16], [1, 8, 14, 16]), (6, [4], [1, 4, 8, 14, 17]), (7, [4], [1, 4, 8, 14, 17])] r := rfl
@[simp] theorem pairs_6 (r : Nat) : E.pairs (6 : Nat) r = (lk [] r).getD [] := rfl
@[simp] theorem mode_6 : E.mode (6 : Nat) = [] := rfl
@[simp] theorem keep_6 (d : Nat) : E.keep (6 : Nat) d = ([] : List Nat).contains d := rfl
@[simp] theorem take_6 (d : Nat) : E.take (6 : Nat) d = ([] : List Nat).contains d := rfl
theorem orc_6 {args : List Arg} {r : Res} (n : Nat) (h : evBody E (orc E) n (6 : Nat) Tryz.f6 args = some r) : fo 6 args = some r := orc_body n rfl rfl Tryz.func6 h
@[simp] theorem kill_7 (r : Nat) : E.kill (7 : Nat) r = (lk [(0, [[0], [2]]), (1, [[], [5]]), (2, [[]]), (3, [[]]), (4, [[], [], [8], [9], [10], [7, 11]]), (6, [[], [15], [16], [], [17, 18], [19]]), (8, [[]]), (5, [[], [13], [14]]), (9, [[]])] r).getD [] := rfl
@[simp] theorem live_7 (r : Nat) : E.live (7 : Nat) r = lk [(0, [1], [0, 1]), (1, [1, 6], [0, 1, 6]), (2, [2], [2]), (3, [1, 3], [0, 1, 3, 14]), (4, [1, 3, 12], [0, 1, 3, 12, 14]), (5, [1, 3], [0, 1, 3, 14]), (6, [1, 3, 4], [0, 1, 3, 4, 14, 15, 16, 17, 18, 19]), (7, [1, 3, 43], [0, 1, 3, 14, 25, 26, 42, 43]), (8, [2], [2]), (9, [2], [2])] r := rfl
@[simp] theorem pairs_7 (r : Nat) : E.pairs (7 : Nat) r = (lk [] r).getD [] := rfl
@[simp] theorem mode_7 : E.mode (7 : Nat) = [] := rfl
@[simp] theorem keep_7 (d : Nat) : E.keep (7 : Nat) d = ([] : List Nat).contains d := rfl
@[simp] theorem take_7 (d : Nat) : E.take (7 : Nat) d = ([] : List Nat).contains d := rfl
theorem orc_7 {args : List Arg} {r : Res} (n : Nat) (h : evBody E (orc E) n (7 : Nat) Tryz.f7 args = some r) : fo 7 args = some r := orc_body n rfl rfl Tryz.func7 h
@[simp] theorem kill_8 (r : Nat) : E.kill (8 : Nat) r = (lk [(0, [[0], []]), (1, [[]]), (2, [[], [4], [5], [], [6, 7]]), (3, [[1], [8], [9], [], [10, 11]]), (4, [[3], [12]])] r).getD [] := rfl
@[simp] theorem live_8 (r : Nat) : E.live (8 : Nat) r = lk [(0, [1, 2], [0, 1, 2, 3, 6, 10, 12]), (1, [1, 2, 3], [0, 1, 2, 3, 6, 10, 12]), (2, [1, 2, 3], [0, 1, 2, 3, 6, 10, 12]), (3, [2, 3], [2, 3, 6, 10, 12]), (4, [2], [2, 3, 6, 10, 12])] r := rfl
@[simp] theorem pairs_8 (r : Nat) : E.pairs (8 : Nat) r = (lk [] r).getD [] := rfl
@[simp] theorem mode_8 : E.mode (8 : Nat) = [] := rfl
@[simp] theorem keep_8 (d : Nat) : E.keep (8 : Nat) d = ([] : List Nat).contains d := rfl
@[simp] theorem take_8 (d : Nat) : E.take (8 : Nat) d = ([] : List Nat).contains d := rfl
theorem orc_8 {args : List Arg} {r : Res} (n : Nat) (h : evBody E (orc E) n (8 : Nat) Tryz.f8 args = some r) : fo 8 args = some r := orc_body n rfl rfl Tryz.func8 h
@[simp] theorem kill_9 (r : Nat) : E.kill (9 : Nat) r = (lk [(0, [[0], [2]]), (1, [[], [5], [6]]), (2, [[]]), (3, [[], [8], [9], [], []]), (4, [[]]), (5, [[], [14], [999999], [15]]), (7, [[]]), (8, [[], [31]]), (9, [[]])] r).getD [] := rfl
@[simp] theorem live_9 (r : Nat) : E.live (9 : Nat) r = lk [(0, [1], [0, 1, 8, 9, 10, 12, 14, 15, 31]), (1, [1, 7], [0, 1, 7, 8, 9, 10, 12, 14, 15, 31]), (2, [2], [2]), (3, [1, 10, 11, 12], [0, 1, 8, 9, 10, 11, 12, 14, 15, 31]), (4, [1, 10, 11, 12, 13], [0, 1, 8, 9, 10, 11, 12, 13, 14, 15, 31]), (5, [1, 4, 10, 11, 12], [0, 1, 4, 8, 9, 10, 11, 12, 14, 15, 31]), (6, [1, 10, 11, 12, 30], [0, 1, 8, 9, 10, 11, 12, 14, 15, 19, 20, 29, 30, 31]), (7, [2], [2]), (8, [1, 10, 11, 12], [0, 1, 8, 9, 10, 11, 12, 14, 15, 31]), (9, [2], [2])] r := rfl
@[simp] theorem pairs_9 (r : Nat) : E.pairs (9 : Nat) r = (lk [(6, [(8, 10)])] r).getD [] := rfl
@[simp] theorem mode_9 : E.mode (9 : Nat) = [] := rfl
@[simp] theorem keep_9 (d : Nat) : E.keep (9 : Nat) d = ([] : List Nat).contains d := rfl
@[simp] theorem take_9 (d : Nat) : E.take (9 : Nat) d = ([] : List Nat).contains d := rfl
theorem orc_9 {args : List Arg} {r : Res} (n : Nat) (h : evBody E (orc E) n (9 : Nat) Tryz.f9 args = some r) : fo 9 args = some r := orc_body n rfl rfl Tryz.func9 h
@[simp] theorem kill_10 (r : Nat) : E.kill (10 : Nat) r = (lk [(0, [[0], [1], [4]]), (1, [[], [5], [], [7], [6, 8], [9]]), (2, [[]]), (3, [[2], [11], [3], [13], [12, 14], [15]]), (4, [[]]), (5, [[]])] r).getD [] := rfl
@[simp] theorem live_10 (r : Nat) : E.live (10 : Nat) r = lk [(0, [2, 3], [0, 1, 2, 3]), (1, [2, 3, 10], [0, 1, 2, 3, 10]), (2, [4], [4]), (3, [16], [16]), (4, [4], [4]), (5, [4], [4])] r := rfl
@[simp] theorem pairs_10 (r : Nat) : E.pairs (10 : Nat) r = (lk [] r).getD [] := rfl
@[simp] theorem mode_10 : E.mode (10 : Nat) = [] := rfl
@[simp] theorem keep_10 (d : Nat) : E.keep (10 : Nat) d = ([] : List Nat).contains d := rfl
@[simp] theorem take_10 (d : Nat) : E.take (10 : Nat) d = ([] : List Nat).contains d := rfl
theorem orc_10 {args : List Arg} {r : Res} (n : Nat) (h : evBody E (orc E) n (10 : Nat) Tryz.f10 args = some r) : fo 10 args = some r := orc_body n rfl rfl Tryz.func10 h
@[simp] theorem kill_11 (r : Nat) : E.kill (11 : Nat) r = (lk [(0, [[0], []]), (1, [[], [7]]), (2, [[], [8]]), (3, [[3], [10], [11]]), (4, [[]]), (5, [[]]), (6, [[], [], [13], [14], [15], [12, 16]]), (8, [[], [20], [21], [], [22, 23], [24]]), (7, [[], [18], [19]]), (10, [[4], [42], [43]])] r).getD [] := rfl
@[simp] theorem live_11 (r : Nat) : E.live (11 : Nat) r = lk [(0, [1, 2], [0, 1, 2, 3, 4, 7, 10, 11, 41, 42, 43]), (1, [1, 2, 3], [0, 1, 2, 3, 4, 7, 10, 11, 41, 42, 43]), (2, [1, 2, 3, 9], [0, 1, 2, 3, 4, 7, 9, 10, 11, 41, 42, 43]), (3, [2], [2, 3, 4, 7, 10, 11, 41, 42, 43]), (4, [1, 2, 4], [0, 1, 2, 3, 4, 7, 10, 11, 41, 42, 43]), (5, [1, 2, 4, 5], [0, 1, 2, 3, 4, 5, 7, 10, 11, 19, 41, 42, 43]), (6, [1, 2, 4, 5, 17], [0, 1, 2, 3, 4, 5, 7, 10, 11, 17, 19, 41, 42, 43]), (7, [1, 2, 4, 5], [0, 1, 2, 3, 4, 5, 7, 10, 11, 19, 41, 42, 43]), (8, [1, 2, 4, 5, 6], [0, 1, 2, 3, 4, 5, 6, 7, 10, 11, 19, 20, 21, 22, 23, 24, 41, 42, 43]), (9, [1, 2, 4, 5], [0, 1, 2, 3, 4, 5, 7, 10, 11, 19, 41, 42, 43]), (10, [2], [2, 3, 4, 7, 10, 11, 41, 42, 43])] r := rfl
@[simp] theorem pairs_11 (r : Nat) : E.pairs (11 : Nat) r = (lk [] r).getD [] := rfl
@[simp] theorem mode_11 : E.mode (11 : Nat) = [] := rfl
@[simp] theorem keep_11 (d : Nat) : E.keep (11 : Nat) d = ([] : List Nat).contains d := rfl
@[simp] theorem take_11 (d : Nat) : E.take (11 : Nat) d = ([] : List Nat).contains d := rfl
theorem orc_11 {args : List Arg} {r : Res} (n : Nat) (h : evBody E (orc E) n (11 : Nat) Tryz.f11 args = some r) : fo 11 args = some r := orc_body n rfl rfl Tryz.func11 h
@[simp] theorem kill_12 (r : Nat) : E.kill (12 : Nat) r = (lk [(0, [[0], []]), (1, [[], [7], [8]]), (2, [[], [9]]), (3, [[3], [11], [12]]), (4, [[]]), (5, [[], [13], [14], [], []]), (6, [[]]), (7, [[], [19], [999999], [20]]), (9, [[], [31]]), (10, [[4], [32], [33]])] r).getD [] := rfl
@[simp] theorem live_12 (r : Nat) : E.live (12 : Nat) r = lk [(0, [1, 2], [0, 1, 2, 3, 4, 8, 11, 12, 13, 14, 15, 17, 19, 20, 30, 31, 32, 33]), (1, [1, 2, 3], [0, 1, 2, 3, 4, 8, 11, 12, 13, 14, 15, 17, 19, 20, 30, 31, 32, 33]), (2, [1, 2, 3, 10], [0, 1, 2, 3, 4, 8, 10, 11, 12, 13, 14, 15, 17, 19, 20, 30, 31, 32, 33]), (3, [2], [2, 3, 4, 8, 11, 12, 30, 32, 33]), (4, [1, 2, 4], [0, 1, 2, 3, 4, 8, 11, 12, 13, 14, 15, 17, 19, 20, 30, 31, 32, 33]), (5, [1, 2, 4, 15, 16, 17], [0, 1, 2, 3, 4, 8, 11, 12, 13, 14, 15, 16, 17, 19, 20, 30, 31, 32, 33]), (6, [1, 2, 4, 15, 16, 17, 18], [0, 1, 2, 3, 4, 8, 11, 12, 13, 14, 15, 16, 17, 18, 19, 20, 30, 31, 32, 33]), (7, [1, 2, 4, 6, 15, 16, 17], [0, 1, 2, 3, 4, 6, 8, 11, 12, 13, 14, 15, 16, 17, 19, 20, 30, 31, 32, 33]), (8, [1, 2, 4, 15, 16, 17], [0, 1, 2, 3, 4, 8, 11, 12, 13, 14, 15, 16, 17, 19, 20, 30, 31, 32, 33]), (9, [1, 2, 4, 15, 16, 17], [0, 1, 2, 3, 4, 8, 11, 12, 13, 14, 15, 16, 17, 19, 20, 30, 31, 32, 33]), (10, [2], [2, 3, 4, 8, 11, 12, 30, 32, 33])] r := rfl
@[simp] theorem pairs_12 (r : Nat) : E.pairs (12 : Nat) r = (lk [(8, [(4, 6)])] r).getD [] := rfl
@[simp] theorem mode_12 : E.mode (12 : Nat) = [] := rfl
@[simp] theorem keep_12 (d : Nat) : E.keep (12 : Nat) d = ([] : List Nat).contains d := rfl
@[simp] theorem take_12 (d : Nat) : E.take (12 : Nat) d = ([] : List Nat).contains d := rfl
theorem orc_12 {args : List Arg} {r : Res} (n : Nat) (h : evBody E (orc E) n (12 : Nat) Tryz.f12 args = some r) : fo 12 args = some r := orc_body n rfl rfl Tryz.func12 h
@[simp] theorem kill_13 (r : Nat) : E.kill (13 : Nat) r = (lk [(0, [[0], [1], [4]]), (1, [[], [5], [], [7], [6, 8]]), (2, [[]]), (3, [[2], [10], [3], [12], [11, 13]]), (4, [[]]), (5, [[]])] r).getD [] := rfl
@[simp] theorem live_13 (r : Nat) : E.live (13 : Nat) r = lk [(0, [2, 3], [0, 1, 2, 3]), (1, [2, 3, 9], [0, 1, 2, 3, 9]), (2, [4], [4]), (3, [14], [14]), (4, [4], [4]), (5, [4], [4])] r := rfl
@[simp] theorem pairs_13 (r : Nat) : E.pairs (13 : Nat) r = (lk [] r).getD [] := rfl
@[simp] theorem mode_13 : E.mode (13 : Nat) = [] := rfl
@[simp] theorem keep_13 (d : Nat) : E.keep (13 : Nat) d = ([] : List Nat).contains d := rfl
@[simp] theorem take_13 (d : Nat) : E.take (13 : Nat) d = ([] : List Nat).contains d := rfl
theorem orc_13 {args : List Arg} {r : Res} (n : Nat) (h : evBody E (orc E) n (13 : Nat) Tryz.f13 args = some r) : fo 13 args = some r := orc_body n rfl rfl Tryz.func13 h
@[simp] theorem kill_14 (r : Nat) : E.kill (14 : Nat) r = (lk [(0, [[0], [4]]), (1, [[], [5], [], [6, 7], [8]]), (2, [[], [9]]), (3, [[]]), (4, [[2], [11], [], [12, 13], [14]]), (5, [[], [15]]), (6, [[]]), (7, [[1], [17]])] r).getD [] := rfl
@[simp] theorem live_14 (r : Nat) : E.live (14 : Nat) r = lk [(0, [1, 2], [0, 1, 2, 8, 14]), (1, [1, 2], [0, 1, 2, 8, 14]), (2, [1, 2, 10], [0, 1, 2, 8, 10, 14]), (3, [4], [1, 4, 8, 14, 17]), (4, [1], [1, 8, 14]), (5, [1, 16], [1, 8, 14, 16]), (6, [4], [1, 4, 8, 14, 17]), (7, [4], [1, 4, 8, 14, 17])] r := rfl
@[simp] theorem pairs_14 (r : Nat) : E.pairs (14 : Nat) r = (lk [] r).getD [] := rfl
@[simp] theorem mode_14 : E.mode (14 : Nat) = [] := rfl
@[simp] theorem keep_14 (d : Nat) : E.keep (14 : Nat) d = ([] : List Nat).contains d := rfl
@[simp] theorem take_14 (d : Nat) : E.take (14 : Nat) d = ([] : List Nat).contains d := rfl
theorem orc_14 {args : List Arg} {r : Res} (n : Nat) (h : evBody E (orc E) n (14 : Nat) Tryz.f14 args = some r) : fo 14 args = some r := orc_body n rfl rfl Tryz.func14 h
@[simp] theorem kill_15 (r : Nat) : E.kill (15 : Nat) r = (lk [(0, [[0], [2]]), (1, [[1], [3]])] r).getD [] := rfl
@[simp] theorem live_15 (r : Nat) : E.live (15 : Nat) r = lk [(0, [1], [0, 1]), (1, [2], [2, 3])] r := rfl
@[simp] theorem pairs_15 (r : Nat) : E.pairs (15 : Nat) r = (lk [] r).getD [] := rfl
@[simp] theorem mode_15 : E.mode (15 : Nat) = [] := rfl
@[simp] theorem keep_15 (d : Nat) : E.keep (15 : Nat) d = ([] : List Nat).contains d := rfl
@[simp] theorem take_15 (d : Nat) : E.take (15 : Nat) d = ([] : List Nat).contains d := rfl
theorem orc_15 {args : List Arg} {r : Res} (n : Nat) (h : evBody E (orc E) n (15 : Nat) Tryz.f15 args = some r) : fo 15 args = some r := orc_body n rfl rfl Tryz.func15 h
@[simp] theorem kill_16 (r : Nat) : E.kill (16 : Nat) r = (lk [(0, [[0], []]), (1, [[]]), (2, [[], [4], [5], [], [6, 7]]), (3, [[1], [8], [9], [], [10, 11]]), (4, [[3], [12]])] r).getD [] := rfl
@[simp] theorem live_16 (r : Nat) : E.live (16 : Nat) r = lk [(0, [1, 2], [0, 1, 2, 3, 6, 10, 12]), (1, [1, 2, 3], [0, 1, 2, 3, 6, 10, 12]), (2, [1, 2, 3], [0, 1, 2, 3, 6, 10, 12]), (3, [2, 3], [2, 3, 6, 10, 12]), (4, [2], [2, 3, 6, 10, 12])] r := rfl
@[simp] theorem pairs_16 (r : Nat) : E.pairs (16 : Nat) r = (lk [] r).getD [] := rfl
@[simp] theorem mode_16 : E.mode (16 : Nat) = [] := rfl
@[simp] theorem keep_16 (d : Nat) : E.keep (16 : Nat) d = ([] : List Nat).contains d := rfl
@[simp] theorem take_16 (d : Nat) : E.take (16 : Nat) d = ([] : List Nat).contains d := rfl
theorem orc_16 {args : List Arg} {r : Res} (n : Nat) (h : evBody E (orc E) n (16 : Nat) Tryz.f16 args = some r) : fo 16 args = some r := orc_body n rfl rfl Tryz.func16 h
@[simp] theorem kill_17 (r : Nat) : E.kill (17 : Nat) r = (lk [(0, [[0], [2]])] r).getD [] := rfl
@[simp] theorem live_17 (r : Nat) : E.live (17 : Nat) r = lk [(0, [1], [0, 1]), (1, [2], [2, 10])] r := rfl
@[simp] theorem pairs_17 (r : Nat) : E.pairs (17 : Nat) r = (lk [(1, [(2, 4)])] r).getD [] := rfl
@[simp] theorem mode_17 : E.mode (17 : Nat) = [] := rfl
@[simp] theorem keep_17 (d : Nat) : E.keep (17 : Nat) d = ([] : List Nat).contains d := rfl
@[simp] theorem take_17 (d : Nat) : E.take (17 : Nat) d = ([] : List Nat).contains d := rfl
theorem orc_17 {args : List Arg} {r : Res} (n : Nat) (h : evBody E (orc E) n (17 : Nat) Tryz.f17 args = some r) : fo 17 args = some r := orc_body n rfl rfl Tryz.func17 h
@[simp] theorem kill_18 (r : Nat) : E.kill (18 : Nat) r = (lk [(0, [[0], [1], [4]]), (1, [[], [5], [], [7], [6, 8], [9]]), (2, [[]]), (3, [[2], [11], [3], [13], [12, 14], [15]]), (4, [[]]), (5, [[]])] r).getD [] := rfl
@[simp] theorem live_18 (r : Nat) : E.live (18 : Nat) r = lk [(0, [2, 3], [0, 1, 2, 3]), (1, [2, 3, 10], [0, 1, 2, 3, 10]), (2, [4], [4]), (3, [16], [16]), (4, [4], [4]), (5, [4], [4])] r := rfl
@[simp] theorem pairs_18 (r : Nat) : E.pairs (18 : Nat) r = (lk [] r).getD [] := rfl
@[simp] theorem mode_18 : E.mode (18 : Nat) = [] := rfl
@[simp] theorem keep_18 (d : Nat) : E.keep (18 : Nat) d = ([] : List Nat).contains d := rfl
@[simp] theorem take_18 (d : Nat) : E.take (18 : Nat) d = ([] : List Nat).contains d := rfl
theorem orc_18 {args : List Arg} {r : Res} (n : Nat) (h : evBody E (orc E) n (18 : Nat) Tryz.f18 args = some r) : fo 18 args = some r := orc_body n rfl rfl Tryz.func18 h
@[simp] theorem kill_19 (r : Nat) : E.kill (19 : Nat) r = (lk [(0, [[0], [4]]), (1, [[], [5], [], [6, 7], [8]]), (2, [[], [9]]), (3, [[]]), (4, [[2], [11], [], [12, 13], [14]]), (5, [[], [15]]), (6, [[]]), (7, [[1], [17]])] r).getD [] := rfl
@[simp] theorem live_19 (r : Nat) : E.live (19 : Nat) r = lk [(0, [1, 2], [0, 1, 2, 8, 14]), (1, [1, 2], [0, 1, 2, 8, 14]), (2, [1, 2, 10], [0, 1, 2, 8, 10, 14]), (3, [4], [1, 4, 8, 14, 17]), (4, [1], [1, 8, 14]), (5, [1, 16], [1, 8, 14, 16]), (6, [4], [1, 4, 8, 14, 17]), (7, [4], [1, 4, 8, 14, 17])] r := rfl
@[simp] theorem pairs_19 (r : Nat) : E.pairs (19 : Nat) r = (lk [] r).getD [] := rfl
@[simp] theorem mode_19 : E.mode (19 : Nat) = [] := rfl
@[simp] theorem keep_19 (d : Nat) : E.keep (19 : Nat) d = ([] : List Nat).contains d := rfl
@[simp] theorem take_19 (d : Nat) : E.take (19 : Nat) d = ([] : List Nat).contains d := rfl
theorem orc_19 {args : List Arg} {r : Res} (n : Nat) (h : evBody E (orc E) n (19 : Nat) Tryz.f19 args = some r) : fo 19 args = some r := orc_body n rfl rfl Tryz.func19 h
@[simp] theorem kill_20 (r : Nat) : E.kill (20 : Nat) r = (lk [(0, [[4]]), (1, [[], [0], [6], [5, 7], [8]]), (2, [[], [9]]), (3, [[]]), (4, [[1], [11]])] r).getD [] := rfl
@[simp] theorem live_20 (r : Nat) : E.live (20 : Nat) r = lk [(0, [0, 1], [0, 1, 8]), (1, [1], [1, 8]), (2, [1, 10], [1, 8, 10]), (3, [4], [1, 4, 8, 11]), (4, [4], [1, 4, 8, 11])] r := rfl
@[simp] theorem pairs_20 (r : Nat) : E.pairs (20 : Nat) r = (lk [] r).getD [] := rfl
@[simp] theorem mode_20 : E.mode (20 : Nat) = [] := rfl
@[simp] theorem keep_20 (d : Nat) : E.keep (20 : Nat) d = ([] : List Nat).contains d := rfl
@[simp] theorem take_20 (d : Nat) : E.take (20 : Nat) d = ([] : List Nat).contains d := rfl
theorem orc_20 {args : List Arg} {r : Res} (n : Nat) (h : evBody E (orc E) n (20 : Nat) Tryz.f20 args = some r) : fo 20 args = some r := orc_body n rfl rfl Tryz.func20 h
@[simp] theorem kill_21 (r : Nat) : E.kill (21 : Nat) r = (lk [(0, [[2]]), (1, [[], [6], [7], [8], [9]]), (2, [[], [10]]), (3, [[3], [12]]), (4, [[], [13], [14], [15], [16], [17]]), (5, [[]]), (6, [[]]), (7, [[], [], [20], [21], [22], [23], [19, 24]]), (9, [[], [28], [29], [30], [], [31, 32], [33], [], [34]]), (11, [[]]), (13, [[]]), (15, [[]]), (8, [[], [26], [27]]), (16, [[]])] r).getD [] := rfl
@[simp] theorem live_21 (r : Nat) : E.live (21 : Nat) r = lk [(0, [0], [0, 4, 27, 28, 29, 30, 31, 32, 33, 34]), (1, [0, 3], [0, 3, 4, 9, 27, 28, 29, 30, 31, 32, 33, 34]), (2, [0, 3, 11], [0, 3, 4, 9, 11, 27, 28, 29, 30, 31, 32, 33, 34]), (3, [2], [2, 3, 9, 12]), (4, [0, 18], [0, 4, 18, 27, 28, 29, 30, 31, 32, 33, 34]), (5, [2], [2, 3, 9, 12]), (6, [0, 4], [0, 4, 27, 28, 29, 30, 31, 32, 33, 34]), (7, [0, 4, 25], [0, 4, 25, 27, 28, 29, 30, 31, 32, 33, 34]), (8, [0, 4], [0, 4, 27, 28, 29, 30, 31, 32, 33, 34]), (9, [0, 4, 5], [0, 4, 5, 27, 28, 29, 30, 31, 32, 33, 34]), (10, [0, 4, 5, 51], [0, 4, 5, 27, 28, 29, 30, 31, 32, 33, 34, 45, 46, 50, 51]), (11, [2], [2, 3, 9, 12]), (12, [0, 4, 5, 60], [0, 4, 5, 27, 28, 29, 30, 31, 32, 33, 34, 60]), (13, [2], [2, 3, 9, 12]), (14, [0, 4, 75], [0, 4, 27, 28, 29, 30, 31, 32, 33, 34, 62, 63, 74, 75]), (15, [2], [2, 3, 9, 12]), (16, [2], [2, 3, 9, 12])] r := rfl
@[simp] theorem pairs_21 (r : Nat) : E.pairs (21 : Nat) r = (lk [] r).getD [] := rfl
@[simp] theorem mode_21 : E.mode (21 : Nat) = [] := rfl
@[simp] theorem keep_21 (d : Nat) : E.keep (21 : Nat) d = ([] : List Nat).contains d := rfl
@[simp] theorem take_21 (d : Nat) : E.take (21 : Nat) d = ([] : List Nat).contains d := rfl
theorem orc_21 {args : List Arg} {r : Res} (n : Nat) (h : evBody E (orc E) n (21 : Nat) Tryz.f21 args = some r) : fo 21 args = some r := orc_body n rfl rfl Tryz.func21 h
@[simp] theorem kill_22 (r : Nat) : E.kill (22 : Nat) r = (lk [(0, [[4]]), (1, [[], [7]]), (2, [[]]), (3, [[], [], [9], [8, 10]]), (5, [[], [], [14, 15], [16], [17], [18], [19], [], [21], [22], [23], [], [24, 25], [26], [27], [20, 28]]), (6, [[], [], [31], [30, 32], [33]]), (4, [[], [12], [13]]), (7, [[5], [34]])] r).getD [] := rfl
@[simp] theorem live_22 (r : Nat) : E.live (22 : Nat) r = lk [(0, [0, 1], [0, 1]), (1, [0, 1, 5], [0, 1, 5, 7, 33]), (2, [0, 1, 5, 6], [0, 1, 5, 6, 7, 13, 33]), (3, [0, 1, 5, 6, 11], [0, 1, 5, 6, 7, 11, 13, 33]), (4, [0, 1, 5, 6], [0, 1, 5, 6, 7, 13, 33]), (5, [0, 1, 5, 6, 29], [0, 1, 5, 6, 7, 13, 19, 20, 28, 29, 33]), (6, [0, 1, 5, 6], [0, 1, 5, 6, 7, 13, 33]), (7, [4], [4, 5, 7, 33, 34])] r := rfl
@[simp] theorem pairs_22 (r : Nat) : E.pairs (22 : Nat) r = (lk [] r).getD [] := rfl
@[simp] theorem mode_22 : E.mode (22 : Nat) = [] := rfl
@[simp] theorem keep_22 (d : Nat) : E.keep (22 : Nat) d = ([] : List Nat).contains d := rfl
@[simp] theorem take_22 (d : Nat) : E.take (22 : Nat) d = ([] : List Nat).contains d := rfl
theorem orc_22 {args : List Arg} {r : Res} (n : Nat) (h : evBody E (orc E) n (22 : Nat) Tryz.f22 args = some r) : fo 22 args = some r := orc_body n rfl rfl Tryz.func22 h
@[simp] theorem kill_23 (r : Nat) : E.kill (23 : Nat) r = (lk [(0, [[0], []]), (1, [[]]), (2, [[], [4], [5], [], [6, 7]]), (3, [[], [8], [9], [], [10, 11]]), (4, [[1], [12], [], [13, 14]]), (5, [[3], [15]])] r).getD [] := rfl
@[simp] theorem live_23 (r : Nat) : E.live (23 : Nat) r = lk [(0, [1, 2], [0, 1, 2, 3, 6, 10, 12, 13, 15]), (1, [1, 2, 3], [0, 1, 2, 3, 6, 10, 12, 13, 15]), (2, [1, 2, 3], [0, 1, 2, 3, 6, 10, 12, 13, 15]), (3, [1, 2, 3], [0, 1, 2, 3, 6, 10, 12, 13, 15]), (4, [2, 3], [0, 1, 2, 3, 6, 10, 12, 13, 15]), (5, [2], [0, 1, 2, 3, 6, 10, 12, 13, 15])] r := rfl
@[simp] theorem pairs_23 (r : Nat) : E.pairs (23 : Nat) r = (lk [] r).getD [] := rfl
@[simp] theorem mode_23 : E.mode (23 : Nat) = [] := rfl
@[simp] theorem keep_23 (d : Nat) : E.keep (23 : Nat) d = ([] : List Nat).contains d := rfl
@[simp] theorem take_23 (d : Nat) : E.take (23 : Nat) d = ([] : List Nat).contains d := rfl
theorem orc_23 {args : List Arg} {r : Res} (n : Nat) (h : evBody E (orc E) n (23 : Nat) Tryz.f23 args = some r) : fo 23 args = some r := orc_body n rfl rfl Tryz.func23 h
@[simp] theorem kill_24 (r : Nat) : E.kill (24 : Nat) r = (lk [(0, [[2]]), (1, [[], [5], [6], [7]]), (2, [[]]), (3, [[], [], [9], [8, 10]]), (5, [[], [], [], [], [16, 17], [18], [19], [14, 15], [20, 21]]), (4, [[], [12], [13]]), (6, [[3], [22]])] r).getD [] := rfl
@[simp] theorem live_24 (r : Nat) : E.live (24 : Nat) r = lk [(0, [0], [0]), (1, [0, 3], [0, 3, 7, 20]), (2, [0, 3, 4], [0, 3, 4, 7, 13, 20]), (3, [0, 3, 4, 11], [0, 3, 4, 7, 11, 13, 20]), (4, [0, 3, 4], [0, 3, 4, 7, 13, 20]), (5, [0, 3, 4], [0, 3, 4, 7, 13, 20]), (6, [2], [2, 3, 7, 20, 22])] r := rfl
@[simp] theorem pairs_24 (r : Nat) : E.pairs (24 : Nat) r = (lk [] r).getD [] := rfl
@[simp] theorem mode_24 : E.mode (24 : Nat) = [] := rfl
@[simp] theorem keep_24 (d : Nat) : E.keep (24 : Nat) d = ([] : List Nat).contains d := rfl
@[simp] theorem take_24 (d : Nat) : E.take (24 : Nat) d = ([] : List Nat).contains d := rfl
theorem orc_24 {args : List Arg} {r : Res} (n : Nat) (h : evBody E (orc E) n (24 : Nat) Tryz.f24 args = some r) : fo 24 args = some r := orc_body n rfl rfl Tryz.func24 h
@[simp] theorem kill_25 (r : Nat) : E.kill (25 : Nat) r = (lk [(0, [[0], [2]]), (2, [[], [16]]), (3, [[3], [18]]), (4, [[], [19], [], []]), (5, [[]]), (6, [[], [], [25], [], [24], [26]]), (7, [[], [28], [], [30], [31], [32], [29, 33], [34], [35], [], [37], [38], [39], [36, 40], [41]]), (8, [[]]), (9, [[], [43], [], [45], [], [47], [44, 46, 48], [49], [50]]), (10, [[]]), (12, [[]]), (13, [[], [65]]), (14, [[]])] r).getD [] := rfl
@[simp] theorem live_25 (r : Nat) : E.live (25 : Nat) r = lk [(0, [1], [0, 1, 19, 20, 22, 25, 26, 65]), (1, [1, 3], [0, 1, 3, 15, 19, 20, 22, 25, 26, 65]), (2, [1, 3, 17], [0, 1, 3, 15, 17, 19, 20, 22, 25, 26, 65]), (3, [2], [2, 3, 15, 18]), (4, [1, 20, 21, 22], [0, 1, 19, 20, 21, 22, 25, 26, 65]), (5, [1, 20, 21, 22, 23], [0, 1, 19, 20, 21, 22, 23, 25, 26, 65]), (6, [1, 4, 5, 20, 21, 22], [0, 1, 4, 5, 19, 20, 21, 22, 24, 25, 26, 65]), (7, [1, 4, 5, 20, 21, 22, 27], [0, 1, 4, 5, 19, 20, 21, 22, 24, 25, 26, 27, 35, 36, 40, 41, 65]), (8, [2], [2, 3, 15, 18]), (9, [1, 4, 5, 20, 21, 22, 42], [0, 1, 4, 5, 19, 20, 21, 22, 24, 25, 26, 42, 50, 65]), (10, [2], [2, 3, 15, 18]), (11, [1, 20, 21, 22, 51], [0, 1, 19, 20, 21, 22, 25, 26, 51, 53, 54, 63, 64, 65]), (12, [2], [2, 3, 15, 18]), (13, [1, 20, 21, 22], [0, 1, 19, 20, 21, 22, 25, 26, 65]), (14, [2], [2, 3, 15, 18])] r := rfl
@[simp] theorem pairs_25 (r : Nat) : E.pairs (25 : Nat) r = (lk [(1, [(2, 4)])] r).getD [] := rfl
@[simp] theorem mode_25 : E.mode (25 : Nat) = [] := rfl
@[simp] theorem keep_25 (d : Nat) : E.keep (25 : Nat) d = ([] : List Nat).contains d := rfl
@[simp] theorem take_25 (d : Nat) : E.take (25 : Nat) d = ([] : List Nat).contains d := rfl
theorem orc_25 {args : List Arg} {r : Res} (n : Nat) (h : evBody E (orc E) n (25 : Nat) Tryz.f25 args = some r) : fo 25 args = some r := orc_body n rfl rfl Tryz.func25 h
@[simp] theorem kill_26 (r : Nat) : E.kill (26 : Nat) r = (lk [(0, [[1], [4]]), (1, [[], [8]]), (2, [[0], [], []]), (3, [[]]), (4, [[], [], [14], [999999], [13], [15]]), (5, [[7], [16], [17], [18], [], [20], [], [21, 22], [23], [24], [19, 25]]), (6, [[], [6], [28], [27, 29], [30]]), (7, [[], [31]]), (8, [[5], [32]])] r).getD [] := rfl
@[simp] theorem live_26 (r : Nat) : E.live (26 : Nat) r = lk [(0, [0, 3], [0, 1, 3, 9, 11, 14, 15, 31]), (1, [0, 3, 5], [0, 1, 3, 5, 8, 9, 11, 14, 15, 30, 31]), (2, [3, 5, 9, 10, 11], [0, 1, 3, 5, 8, 9, 10, 11, 14, 15, 30, 31]), (3, [3, 5, 9, 10, 11, 12], [0, 1, 3, 5, 8, 9, 10, 11, 12, 14, 15, 30, 31]), (4, [3, 5, 6, 7, 9, 10, 11], [0, 1, 3, 5, 6, 7, 8, 9, 10, 11, 13, 14, 15, 30, 31]), (5, [3, 5, 6, 9, 10, 11, 26], [0, 1, 3, 5, 6, 8, 9, 10, 11, 13, 14, 15, 18, 19, 25, 26, 30, 31]), (6, [3, 5, 9, 10, 11], [0, 1, 3, 5, 8, 9, 10, 11, 14, 15, 30, 31]), (7, [3, 5, 9, 10, 11], [0, 1, 3, 5, 8, 9, 10, 11, 14, 15, 30, 31]), (8, [4], [4, 5, 8, 30, 32])] r := rfl
@[simp] theorem pairs_26 (r : Nat) : E.pairs (26 : Nat) r = (lk [] r).getD [] := rfl
@[simp] theorem mode_26 : E.mode (26 : Nat) = [] := rfl
@[simp] theorem keep_26 (d : Nat) : E.keep (26 : Nat) d = ([] : List Nat).contains d := rfl
@[simp] theorem take_26 (d : Nat) : E.take (26 : Nat) d = ([] : List Nat).contains d := rfl
theorem orc_26 {args : List Arg} {r : Res} (n : Nat) (h : evBody E (orc E) n (26 : Nat) Tryz.f26 args = some r) : fo 26 args = some r := orc_body n rfl rfl Tryz.func26 h
@[simp] theorem kill_27 (r : Nat) : E.kill (27 : Nat) r = (lk [(0, [[0], [1], [4]]), (1, [[2], [5], [3], [7], [6, 8], [9], [10], [11]])] r).getD [] := rfl
@[simp] theorem live_27 (r : Nat) : E.live (27 : Nat) r = lk [(0, [2, 3], [0, 1, 2, 3]), (1, [4], [0, 1, 2, 3, 4, 5, 6, 7, 8, 9, 10, 11])] r := rfl
@[simp] theorem pairs_27 (r : Nat) : E.pairs (27 : Nat) r = (lk [] r).getD [] := rfl
@[simp] theorem mode_27 : E.mode (27 : Nat) = [] := rfl
@[simp] theorem keep_27 (d : Nat) : E.keep (27 : Nat) d = ([] : List Nat).contains d := rfl
@[simp] theorem take_27 (d : Nat) : E.take (27 : Nat) d = ([] : List Nat).contains d := rfl
theorem orc_27 {args : List Arg} {r : Res} (n : Nat) (h : evBody E (orc E) n (27 : Nat) Tryz.f27 args = some r) : fo 27 args = some r := orc_body n rfl rfl Tryz.func27 h
@[simp] theorem kill_28 (r : Nat) : E.kill (28 : Nat) r = (lk [(0, [[0], [1], [4]]), (1, [[], [5], [], [7], [6, 8], [9]]), (2, [[]]), (3, [[], [11], [], [13], [12, 14], [15]]), (4, [[]]), (5, [[2], [17], [3], [19], [18, 20]]), (6, [[]]), (7, [[]])] r).getD [] := rfl
@[simp] theorem live_28 (r : Nat) : E.live (28 : Nat) r = lk [(0, [2, 3], [0, 1, 2, 3]), (1, [2, 3, 10], [0, 1, 2, 3, 10]), (2, [4], [4]), (3, [2, 3, 16], [0, 1, 2, 3, 16]), (4, [4], [4]), (5, [21], [21]), (6, [4], [4]), (7, [4], [4])] r := rfl
@[simp] theorem pairs_28 (r : Nat) : E.pairs (28 : Nat) r = (lk [] r).getD [] := rfl
@[simp] theorem mode_28 : E.mode (28 : Nat) = [] := rfl
@[simp] theorem keep_28 (d : Nat) : E.keep (28 : Nat) d = ([] : List Nat).contains d := rfl
@[simp] theorem take_28 (d : Nat) : E.take (28 : Nat) d = ([] : List Nat).contains d := rfl
theorem orc_28 {args : List Arg} {r : Res} (n : Nat) (h : evBody E (orc E) n (28 : Nat) Tryz.f28 args = some r) : fo 28 args = some r := orc_body n rfl rfl Tryz.func28 h
@[simp] theorem kill_29 (r : Nat) : E.kill (29 : Nat) r = (lk [(0, [[4]]), (1, [[], [6], [], [8], [7, 9]]), (2, [[]]), (3, [[]]), (4, [[], [], [12], [11, 13]]), (7, [[]]), (5, [[], [15], [16]]), (8, [[]])] r).getD [] := rfl
@[simp] theorem live_29 (r : Nat) : E.live (29 : Nat) r = lk [(0, [0, 1], [0, 1]), (1, [0, 1, 10], [0, 1, 10]), (2, [4], [4]), (3, [0, 1, 5], [0, 1, 5, 16]), (4, [0, 1, 5, 14], [0, 1, 5, 14, 16]), (5, [0, 1, 5], [0, 1, 5, 16]), (6, [0, 1, 5, 26], [0, 1, 5, 16, 26]), (7, [4], [4]), (8, [4], [4])] r := rfl
@[simp] theorem pairs_29 (r : Nat) : E.pairs (29 : Nat) r = (lk [] r).getD [] := rfl
@[simp] theorem mode_29 : E.mode (29 : Nat) = [] := rfl
@[simp] theorem keep_29 (d : Nat) : E.keep (29 : Nat) d = ([] : List Nat).contains d := rfl
@[simp] theorem take_29 (d : Nat) : E.take (29 : Nat) d = ([] : List Nat).contains d := rfl
theorem orc_29 {args : List Arg} {r : Res} (n : Nat) (h : evBody E (orc E) n (29 : Nat) Tryz.f29 args = some r) : fo 29 args = some r := orc_body n rfl rfl Tryz.func29 h
@[simp] theorem kill_30 (r : Nat) : E.kill (30 : Nat) r = (lk [(0, [[0], [4]]), (1, [[], [5], [], [6, 7], [8]]), (2, [[], [9]]), (3, [[]]), (4, [[2], [11], [], [12, 13], [14]]), (5, [[], [15]]), (6, [[]]), (7, [[1], [17]])] r).getD [] := rfl
@[simp] theorem live_30 (r : Nat) : E.live (30 : Nat) r = lk [(0, [1, 2], [0, 1, 2, 8, 14]), (1, [1, 2], [0, 1, 2, 8, 14]), (2, [1, 2, 10], [0, 1, 2, 8, 10, 14]), (3, [4], [1, 4, 8, 14, 17]), (4, [1], [1, 8, 14]), (5, [1, 16], [1, 8, 14, 16]), (6, [4], [1, 4, 8, 14, 17]), (7, [4], [1, 4, 8, 14, 17])] r := rfl
@[simp] theorem pairs_30 (r : Nat) : E.pairs (30 : Nat) r = (lk [] r).getD [] := rfl
@[simp] theorem mode_30 : E.mode (30 : Nat) = [] := rfl
@[simp] theorem keep_30 (d : Nat) : E.keep (30 : Nat) d = ([] : List Nat).contains d := rfl
@[simp] theorem take_30 (d : Nat) : E.take (30 : Nat) d = ([] : List Nat).contains d := rfl
theorem orc_30 {args : List Arg} {r : Res} (n : Nat) (h : evBody E (orc E) n (30 : Nat) Tryz.f30 args = some r) : fo 30 args = some r := orc_body n rfl rfl Tryz.func30 h
@[simp] theorem kill_31 (r : Nat) : E.kill (31 : Nat) r = (lk [(0, [[2]]), (1, [[], [4], [5], [6], [7]]), (2, [[], [8]]), (3, [[3], [10]]), (4, [[0], [11], [12], [13], [14]])] r).getD [] := rfl
@[simp] theorem live_31 (r : Nat) : E.live (31 : Nat) r = lk [(0, [0], [0]), (1, [0, 3], [0, 3, 7]), (2, [0, 3, 9], [0, 3, 7, 9]), (3, [2], [2, 3, 7, 10, 14]), (4, [2], [2, 3, 7, 10, 14])] r := rfl
@[simp] theorem pairs_31 (r : Nat) : E.pairs (31 : Nat) r = (lk [] r).getD [] := rfl
@[simp] theorem mode_31 : E.mode (31 : Nat) = [] := rfl
@[simp] theorem keep_31 (d : Nat) : E.keep (31 : Nat) d = ([] : List Nat).contains d := rfl
@[simp] theorem take_31 (d : Nat) : E.take (31 : Nat) d = ([] : List Nat).contains d := rfl
theorem orc_31 {args : List Arg} {r : Res} (n : Nat) (h : evBody E (orc E) n (31 : Nat) Tryz.f31 args = some r) : fo 31 args = some r := orc_body n rfl rfl Tryz.func31 h
@[simp] theorem kill_32 (r : Nat) : E.kill (32 : Nat) r = (lk [(0, [[0], []]), (1, [[]]), (2, [[], [4], [5], [], [6, 7]]), (3, [[1], [8], [9], [], [10, 11]]), (4, [[3], [12]])] r).getD [] := rfl
@[simp] theorem live_32 (r : Nat) : E.live (32 : Nat) r = lk [(0, [1, 2], [0, 1, 2, 3, 6, 10, 12]), (1, [1, 2, 3], [0, 1, 2, 3, 6, 10, 12]), (2, [1, 2, 3], [0, 1, 2, 3, 6, 10, 12]), (3, [2, 3], [2, 3, 6, 10, 12]), (4, [2], [2, 3, 6, 10, 12])] r := rfl
@[simp] theorem pairs_32 (r : Nat) : E.pairs (32 : Nat) r = (lk [] r).getD [] := rfl
@[simp] theorem mode_32 : E.mode (32 : Nat) = [] := rfl
@[simp] theorem keep_32 (d : Nat) : E.keep (32 : Nat) d = ([] : List Nat).contains d := rfl
@[simp] theorem take_32 (d : Nat) : E.take (32 : Nat) d = ([] : List Nat).contains d := rfl
theorem orc_32 {args : List Arg} {r : Res} (n : Nat) (h : evBody E (orc E) n (32 : Nat) Tryz.f32 args = some r) : fo 32 args = some r := orc_body n rfl rfl Tryz.func32 h
@[simp] theorem kill_33 (r : Nat) : E.kill (33 : Nat) r = (lk [(0, [[2]]), (1, [[0], [], []]), (2, [[]]), (3, [[], [9], [10]]), (4, [[], [11]]), (5, [[4], [13]]), (6, [[], [14]]), (7, [[]])] r).getD [] := rfl
@[simp] theorem live_33 (r : Nat) : E.live (33 : Nat) r = lk [(0, [0], [0]), (1, [5, 6, 7], [0, 5, 6, 7, 14]), (2, [5, 6, 7, 8], [0, 5, 6, 7, 8, 14]), (3, [4, 5, 6, 7], [0, 4, 5, 6, 7, 9, 10, 14]), (4, [4, 5, 6, 7, 12], [0, 4, 5, 6, 7, 9, 10, 12, 14]), (5, [2], [0, 2, 4, 5, 7, 9, 10, 13, 14]), (6, [5, 6, 7], [0, 5, 6, 7, 14]), (7, [2], [0, 2, 4, 5, 7, 9, 10, 13, 14])] r := rfl
@[simp] theorem pairs_33 (r : Nat) : E.pairs (33 : Nat) r = (lk [] r).getD [] := rfl
@[simp] theorem mode_33 : E.mode (33 : Nat) = [] := rfl
@[simp] theorem keep_33 (d : Nat) : E.keep (33 : Nat) d = ([] : List Nat).contains d := rfl
@[simp] theorem take_33 (d : Nat) : E.take (33 : Nat) d = ([] : List Nat).contains d := rfl
theorem orc_33 {args : List Arg} {r : Res} (n : Nat) (h : evBody E (orc E) n (33 : Nat) Tryz.f33 args = some r) : fo 33 args = some r := orc_body n rfl rfl Tryz.func33 h
@[simp] theorem kill_34 (r : Nat) : E.kill (34 : Nat) r = (lk [(0, [[0], [2]])] r).getD [] := rfl
@[simp] theorem live_34 (r : Nat) : E.live (34 : Nat) r = lk [(0, [1], [0, 1]), (1, [2], [2, 24])] r := rfl
@[simp] theorem pairs_34 (r : Nat) : E.pairs (34 : Nat) r = (lk [(1, [(8, 10)])] r).getD [] := rfl
@[simp] theorem mode_34 : E.mode (34 : Nat) = [] := rfl
@[simp] theorem keep_34 (d : Nat) : E.keep (34 : Nat) d = ([] : List Nat).contains d := rfl
@[simp] theorem take_34 (d : Nat) : E.take (34 : Nat) d = ([] : List Nat).contains d := rfl
theorem orc_34 {args : List Arg} {r : Res} (n : Nat) (h : evBody E (orc E) n (34 : Nat) Tryz.f34 args = some r) : fo 34 args = some r := orc_body n rfl rfl Tryz.func34 h
@[simp] theorem kill_35 (r : Nat) : E.kill (35 : Nat) r = (lk [(0, [[0], [1], [4]]), (1, [[], [5], [], [7], [6, 8], [9]]), (2, [[]]), (3, [[2], [11], [3], [13], [12, 14], [15]]), (4, [[]]), (5, [[]])] r).getD [] := rfl
@[simp] theorem live_35 (r : Nat) : E.live (35 : Nat) r = lk [(0, [2, 3], [0, 1, 2, 3]), (1, [2, 3, 10], [0, 1, 2, 3, 10]), (2, [4], [4]), (3, [16], [16]), (4, [4], [4]), (5, [4], [4])] r := rfl
@[simp] theorem pairs_35 (r : Nat) : E.pairs (35 : Nat) r = (lk [] r).getD [] := rfl
@[simp] theorem mode_35 : E.mode (35 : Nat) = [] := rfl
@[simp] theorem keep_35 (d : Nat) : E.keep (35 : Nat) d = ([] : List Nat).contains d := rfl
@[simp] theorem take_35 (d : Nat) : E.take (35 : Nat) d = ([] : List Nat).contains d := rfl
theorem orc_35 {args : List Arg} {r : Res} (n : Nat) (h : evBody E (orc E) n (35 : Nat) Tryz.f35 args = some r) : fo 35 args = some r := orc_body n rfl rfl Tryz.func35 h
@[simp] theorem kill_36 (r : Nat) : E.kill (36 : Nat) r = (lk [(0, [[4]]), (1, [[], [], [7], [6, 8], [9]]), (2, [[], [10]]), (3, [[]]), (4, [[]]), (5, [[], [], [13], [12, 14]]), (7, [[], [], [18, 19], [20], [], [21, 22], [23]]), (8, [[], [24]]), (9, [[]]), (6, [[], [16], [17]]), (10, [[1], [26]])] r).getD [] := rfl
@[simp] theorem live_36 (r : Nat) : E.live (36 : Nat) r = lk [(0, [0, 1], [0, 1, 9, 23]), (1, [0, 1], [0, 1, 9, 23]), (2, [0, 1, 11], [0, 1, 9, 11, 23]), (3, [4], [1, 4, 9, 23, 26]), (4, [0, 1, 5], [0, 1, 5, 9, 17, 23]), (5, [0, 1, 5, 15], [0, 1, 5, 9, 15, 17, 23]), (6, [0, 1, 5], [0, 1, 5, 9, 17, 23]), (7, [0, 1, 5], [0, 1, 5, 9, 17, 23]), (8, [0, 1, 5, 25], [0, 1, 5, 9, 17, 23, 25]), (9, [4], [1, 4, 9, 23, 26]), (10, [4], [1, 4, 9, 23, 26])] r := rfl
@[simp] theorem pairs_36 (r : Nat) : E.pairs (36 : Nat) r = (lk [] r).getD [] := rfl
@[simp] theorem mode_36 : E.mode (36 : Nat) = [] := rfl
@[simp] theorem keep_36 (d : Nat) : E.keep (36 : Nat) d = ([] : List Nat).contains d := rfl
@[simp] theorem take_36 (d : Nat) : E.take (36 : Nat) d = ([] : List Nat).contains d := rfl
theorem orc_36 {args : List Arg} {r : Res} (n : Nat) (h : evBody E (orc E) n (36 : Nat) Tryz.f36 args = some r) : fo 36 args = some r := orc_body n rfl rfl Tryz.func36 h
@[simp] theorem kill_37 (r : Nat) : E.kill (37 : Nat) r = (lk [(0, [[4]]), (1, [[], [], [7], [6, 8], [9]]), (2, [[], [10]]), (3, [[]]), (4, [[]]), (5, [[], [], [13], [12, 14]]), (7, [[], [], [18, 19], [20], [], [21, 22], [23]]), (8, [[], [24]]), (9, [[]]), (6, [[], [16], [17]]), (10, [[1], [26]])] r).getD [] := rfl
@[simp] theorem live_37 (r : Nat) : E.live (37 : Nat) r = lk [(0, [0, 1], [0, 1, 9, 23]), (1, [0, 1], [0, 1, 9, 23]), (2, [0, 1, 11], [0, 1, 9, 11, 23]), (3, [4], [1, 4, 9, 23, 26]), (4, [0, 1, 5], [0, 1, 5, 9, 17, 23]), (5, [0, 1, 5, 15], [0, 1, 5, 9, 15, 17, 23]), (6, [0, 1, 5], [0, 1, 5, 9, 17, 23]), (7, [0, 1, 5], [0, 1, 5, 9, 17, 23]), (8, [0, 1, 5, 25], [0, 1, 5, 9, 17, 23, 25]), (9, [4], [1, 4, 9, 23, 26]), (10, [4], [1, 4, 9, 23, 26])] r := rfl
@[simp] theorem pairs_37 (r : Nat) : E.pairs (37 : Nat) r = (lk [] r).getD [] := rfl
@[simp] theorem mode_37 : E.mode (37 : Nat) = [] := rfl
@[simp] theorem keep_37 (d : Nat) : E.keep (37 : Nat) d = ([] : List Nat).contains d := rfl
@[simp] theorem take_37 (d : Nat) : E.take (37 : Nat) d = ([] : List Nat).contains d := rfl
theorem orc_37 {args : List Arg} {r : Res} (n : Nat) (h : evBody E (orc E) n (37 : Nat) Tryz.f37 args = some r) : fo 37 args = some r := orc_body n rfl rfl Tryz.func37 h
@[simp] theorem kill_38 (r : Nat) : E.kill (38 : Nat) r = (lk [(0, [[2]]), (1, [[], [7], [8], [9], [10], [11]]), (2, [[]]), (3, [[], [13], [14], [15], [16], [17]]), (4, [[], [18]]), (5, [[3], [20]]), (6, [[], [21], [22], [23], [24], [25]]), (7, [[]]), (8, [[]]), (9, [[], [], [28], [29], [30], [31], [27, 32]]), (11, [[], [36], [37], [38], [], [39, 40], [41]]), (13, [[]]), (15, [[], [69]]), (16, [[6], [71]]), (18, [[]]), (10, [[], [34], [35]]), (19, [[]])] r).getD [] := rfl
@[simp] theorem live_38 (r : Nat) : E.live (38 : Nat) r = lk [(0, [0], [0]), (1, [0, 12], [0, 12]), (2, [2], [2, 3, 6, 17, 20, 68, 71]), (3, [0, 3], [0, 3, 17]), (4, [0, 3, 19], [0, 3, 17, 19]), (5, [2], [2, 3, 6, 17, 20, 68, 71]), (6, [0, 26], [0, 26]), (7, [2], [2, 3, 6, 17, 20, 68, 71]), (8, [0, 4], [0, 4, 35]), (9, [0, 4, 33], [0, 4, 33, 35]), (10, [0, 4], [0, 4, 35]), (11, [0, 4, 5], [0, 4, 5, 35, 36, 37, 38, 39, 40, 41]), (12, [0, 4, 5, 53], [0, 4, 5, 35, 36, 37, 38, 39, 40, 41, 53]), (13, [2], [2, 3, 6, 17, 20, 68, 71]), (14, [0, 4, 5, 6], [0, 4, 5, 6, 35, 36, 37, 38, 39, 40, 41, 68]), (15, [0, 4, 5, 6, 70], [0, 4, 5, 6, 35, 36, 37, 38, 39, 40, 41, 68, 70]), (16, [2], [2, 3, 6, 17, 20, 68, 71]), (17, [0, 4, 81], [0, 4, 35, 81]), (18, [2], [2, 3, 6, 17, 20, 68, 71]), (19, [2], [2, 3, 6, 17, 20, 68, 71])] r := rfl
@[simp] theorem pairs_38 (r : Nat) : E.pairs (38 : Nat) r = (lk [] r).getD [] := rfl
@[simp] theorem mode_38 : E.mode (38 : Nat) = [] := rfl
@[simp] theorem keep_38 (d : Nat) : E.keep (38 : Nat) d = ([] : List Nat).contains d := rfl
@[simp] theorem take_38 (d : Nat) : E.take (38 : Nat) d = ([] : List Nat).contains d := rfl
theorem orc_38 {args : List Arg} {r : Res} (n : Nat) (h : evBody E (orc E) n (38 : Nat) Tryz.f38 args = some r) : fo 38 args = some r := orc_body n rfl rfl Tryz.func38 h
@[simp] theorem kill_39 (r : Nat) : E.kill (39 : Nat) r = (lk [(0, [[6]]), (1, [[], [1], [7, 8], [9], [0], [2], [11, 12], [10, 13], [14]])] r).getD [] := rfl
@[simp] theorem live_39 (r : Nat) : E.live (39 : Nat) r = lk [(0, [0, 1, 2], [0, 1, 2]), (1, [6], [6, 9, 10, 13, 14])] r := rfl
@[simp] theorem pairs_39 (r : Nat) : E.pairs (39 : Nat) r = (lk [] r).getD [] := rfl
@[simp] theorem mode_39 : E.mode (39 : Nat) = [] := rfl
@[simp] theorem keep_39 (d : Nat) : E.keep (39 : Nat) d = ([] : List Nat).contains d := rfl
@[simp] theorem take_39 (d : Nat) : E.take (39 : Nat) d = ([] : List Nat).contains d := rfl
theorem orc_39 {args : List Arg} {r : Res} (n : Nat) (h : evBody E (orc E) n (39 : Nat) Tryz.f39 args = some r) : fo 39 args = some r := orc_body n rfl rfl Tryz.func39 h
@[simp] theorem kill_40 (r : Nat) : E.kill (40 : Nat) r = (lk [(0, [[2]]), (1, [[0], [3], [4]])] r).getD [] := rfl
@[simp] theorem live_40 (r : Nat) : E.live (40 : Nat) r = lk [(0, [0], [0]), (1, [2], [2, 4])] r := rfl
@[simp] theorem pairs_40 (r : Nat) : E.pairs (40 : Nat) r = (lk [] r).getD [] := rfl
@[simp] theorem mode_40 : E.mode (40 : Nat) = [] := rfl
@[simp] theorem keep_40 (d : Nat) : E.keep (40 : Nat) d = ([] : List Nat).contains d := rfl
@[simp] theorem take_40 (d : Nat) : E.take (40 : Nat) d = ([] : List Nat).contains d := rfl
theorem orc_40 {args : List Arg} {r : Res} (n : Nat) (h : evBody E (orc E) n (40 : Nat) Tryz.f40 args = some r) : fo 40 args = some r := orc_body n rfl rfl Tryz.func40 h
@[simp] theorem kill_41 (r : Nat) : E.kill (41 : Nat) r = (lk [(0, [[6]]), (1, [[], [9], [10], [11], [1], [12, 13], [14]]), (3, [[], [], [27], [28], [26, 29], [30], [8], [], [32, 33], [34], [35], [36], [31, 37], [38], [7], [40], [41], [42], [43], [2], [44, 45], [46], [47], [39, 48], [49]])] r).getD [] := rfl
@[simp] theorem live_41 (r : Nat) : E.live (41 : Nat) r = lk [(0, [0, 1, 2], [0, 1, 2]), (1, [0, 2, 7], [0, 1, 2, 7, 9, 10, 11, 12, 13, 14]), (2, [2, 7, 8], [0, 1, 2, 7, 8, 9, 10, 11, 12, 13, 14, 15, 16, 17, 18, 19, 20, 21, 22, 23, 24, 25]), (3, [6], [6, 30, 31, 37, 38, 39, 48, 49])] r := rfl
@[simp] theorem pairs_41 (r : Nat) : E.pairs (41 : Nat) r = (lk [] r).getD [] := rfl
@[simp] theorem mode_41 : E.mode (41 : Nat) = [] := rfl
@[simp] theorem keep_41 (d : Nat) : E.keep (41 : Nat) d = ([] : List Nat).contains d := rfl
@[simp] theorem take_41 (d : Nat) : E.take (41 : Nat) d = ([] : List Nat).contains d := rfl
theorem orc_41 {args : List Arg} {r : Res} (n : Nat) (h : evBody E (orc E) n (41 : Nat) Tryz.f41 args = some r) : fo 41 args = some r := orc_body n rfl rfl Tryz.func41 h
@[simp] theorem kill_42 (r : Nat) : E.kill (42 : Nat) r = (lk [(0, [[0], [1], [4]]), (1, [[], [5], [], [7], [6, 8], [9], [], [11], [], [13], [12, 14], [15], [2], [17], [3], [19], [18, 20], [16, 21], [10, 22], [23]])] r).getD [] := rfl
@[simp] theorem live_42 (r : Nat) : E.live (42 : Nat) r = lk [(0, [2, 3], [0, 1, 2, 3]), (1, [4], [4, 9, 10, 15, 16, 21, 22, 23])] r := rfl
@[simp] theorem pairs_42 (r : Nat) : E.pairs (42 : Nat) r = (lk [] r).getD [] := rfl
@[simp] theorem mode_42 : E.mode (42 : Nat) = [] := rfl
@[simp] theorem keep_42 (d : Nat) : E.keep (42 : Nat) d = ([] : List Nat).contains d := rfl
@[simp] theorem take_42 (d : Nat) : E.take (42 : Nat) d = ([] : List Nat).contains d := rfl
theorem orc_42 {args : List Arg} {r : Res} (n : Nat) (h : evBody E (orc E) n (42 : Nat) Tryz.f42 args = some r) : fo 42 args = some r := orc_body n rfl rfl Tryz.func42 h
@[simp] theorem kill_43 (r : Nat) : E.kill (43 : Nat) r = (lk [(0, [[2]]), (1, [[], [3], [4], [], [6], [5, 7], [8], [0], [10], [9, 11], [12]])] r).getD [] := rfl
@[simp] theorem live_43 (r : Nat) : E.live (43 : Nat) r = lk [(0, [0], [0]), (1, [2], [2, 4, 5, 7, 8, 9, 11, 12])] r := rfl
@[simp] theorem pairs_43 (r : Nat) : E.pairs (43 : Nat) r = (lk [] r).getD [] := rfl
@[simp] theorem mode_43 : E.mode (43 : Nat) = [] := rfl
@[simp] theorem keep_43 (d : Nat) : E.keep (43 : Nat) d = ([] : List Nat).contains d := rfl
@[simp] theorem take_43 (d : Nat) : E.take (43 : Nat) d = ([] : List Nat).contains d := rfl
theorem orc_43 {args : List Arg} {r : Res} (n : Nat) (h : evBody E (orc E) n (43 : Nat) Tryz.f43 args = some r) : fo 43 args = some r := orc_body n rfl rfl Tryz.func43 h
@[simp] theorem kill_44 (r : Nat) : E.kill (44 : Nat) r = (lk [(0, [[2]]), (1, [[], [5], [6], [7]]), (2, [[]]), (3, [[], [], [9], [8, 10]]), (5, [[], [], [], [], [16, 17], [18], [19], [14, 15], [20, 21]]), (4, [[], [12], [13]]), (6, [[3], [22]])] r).getD [] := rfl
@[simp] theorem live_44 (r : Nat) : E.live (44 : Nat) r = lk [(0, [0], [0]), (1, [0, 3], [0, 3, 7, 20]), (2, [0, 3, 4], [0, 3, 4, 7, 13, 20]), (3, [0, 3, 4, 11], [0, 3, 4, 7, 11, 13, 20]), (4, [0, 3, 4], [0, 3, 4, 7, 13, 20]), (5, [0, 3, 4], [0, 3, 4, 7, 13, 20]), (6, [2], [2, 3, 7, 20, 22])] r := rfl
@[simp] theorem pairs_44 (r : Nat) : E.pairs (44 : Nat) r = (lk [] r).getD [] := rfl
@[simp] theorem mode_44 : E.mode (44 : Nat) = [] := rfl
@[simp] theorem keep_44 (d : Nat) : E.keep (44 : Nat) d = ([] : List Nat).contains d := rfl
@[simp] theorem take_44 (d : Nat) : E.take (44 : Nat) d = ([] : List Nat).contains d := rfl
theorem orc_44 {args : List Arg} {r : Res} (n : Nat) (h : evBody E (orc E) n (44 : Nat) Tryz.f44 args = some r) : fo 44 args = some r := orc_body n rfl rfl Tryz.func44 h
@[simp] theorem kill_45 (r : Nat) : E.kill (45 : Nat) r = (lk [(0, [[2]]), (1, [[], [5], [6], [7]]), (2, [[]]), (3, [[], [], [9], [8, 10]]), (5, [[], [], [], [], [16, 17], [18], [19], [14, 15], [20, 21]]), (4, [[], [12], [13]]), (6, [[3], [22]])] r).getD [] := rfl
@[simp] theorem live_45 (r : Nat) : E.live (45 : Nat) r = lk [(0, [0], [0]), (1, [0, 3], [0, 3, 7, 20]), (2, [0, 3, 4], [0, 3, 4, 7, 13, 20]), (3, [0, 3, 4, 11], [0, 3, 4, 7, 11, 13, 20]), (4, [0, 3, 4], [0, 3, 4, 7, 13, 20]), (5, [0, 3, 4], [0, 3, 4, 7, 13, 20]), (6, [2], [2, 3, 7, 20, 22])] r := rfl
@[simp] theorem pairs_45 (r : Nat) : E.pairs (45 : Nat) r = (lk [] r).getD [] := rfl
@[simp] theorem mode_45 : E.mode (45 : Nat) = [] := rfl
@[simp] theorem keep_45 (d : Nat) : E.keep (45 : Nat) d = ([] : List Nat).contains d := rfl
@[simp] theorem take_45 (d : Nat) : E.take (45 : Nat) d = ([] : List Nat).contains d := rfl
theorem orc_45 {args : List Arg} {r : Res} (n : Nat) (h : evBody E (orc E) n (45 : Nat) Tryz.f45 args = some r) : fo 45 args = some r := orc_body n rfl rfl Tryz.func45 h
@[simp] theorem kill_46 (r : Nat) : E.kill (46 : Nat) r = (lk [(0, [[0], []]), (1, [[]]), (2, [[], [4], [], [5, 6]]), (3, [[], [7], [], [8, 9]]), (4, [[1], [10], [], [11, 12]]), (5, [[3], [13]])] r).getD [] := rfl
@[simp] theorem live_46 (r : Nat) : E.live (46 : Nat) r = lk [(0, [1, 2], [0, 1, 2, 3, 4, 5, 7, 8, 10, 11, 13]), (1, [1, 2, 3], [0, 1, 2, 3, 4, 5, 7, 8, 10, 11, 13]), (2, [1, 2, 3], [0, 1, 2, 3, 4, 5, 7, 8, 10, 11, 13]), (3, [1, 2, 3], [0, 1, 2, 3, 4, 5, 7, 8, 10, 11, 13]), (4, [2, 3], [0, 1, 2, 3, 4, 5, 7, 8, 10, 11, 13]), (5, [2], [0, 1, 2, 3, 4, 5, 7, 8, 10, 11, 13])] r := rfl
@[simp] theorem pairs_46 (r : Nat) : E.pairs (46 : Nat) r = (lk [] r).getD [] := rfl
@[simp] theorem mode_46 : E.mode (46 : Nat) = [] := rfl
@[simp] theorem keep_46 (d : Nat) : E.keep (46 : Nat) d = ([] : List Nat).contains d := rfl
@[simp] theorem take_46 (d : Nat) : E.take (46 : Nat) d = ([] : List Nat).contains d := rfl
theorem orc_46 {args : List Arg} {r : Res} (n : Nat) (h : evBody E (orc E) n (46 : Nat) Tryz.f46 args = some r) : fo 46 args = some r := orc_body n rfl rfl Tryz.func46 h
@[simp] theorem kill_47 (r : Nat) : E.kill (47 : Nat) r = (lk [(0, [[0], [2]]), (1, [[], [7], [8], [9], [10], [11], [], [13], [14], [15], [12, 16]]), (2, [[]]), (4, [[], [28]]), (5, [[3], [30]]), (6, [[], [31], [], []]), (7, [[]]), (8, [[], [36], [999999], [37]]), (9, [[], [38], [], [40], [41], [39, 42], [43]]), (10, [[]]), (12, [[], [60]]), (13, [[6], [62]]), (14, [[], [63]]), (15, [[]])] r).getD [] := rfl
@[simp] theorem live_47 (r : Nat) : E.live (47 : Nat) r = lk [(0, [1], [0, 1, 31, 32, 34, 36, 37, 63]), (1, [1, 17], [0, 1, 11, 12, 16, 17, 31, 32, 34, 36, 37, 63]), (2, [2], [2, 3, 6, 27, 30, 59, 62]), (3, [1, 3], [0, 1, 3, 27, 31, 32, 34, 36, 37, 63]), (4, [1, 3, 29], [0, 1, 3, 27, 29, 31, 32, 34, 36, 37, 63]), (5, [2], [2, 3, 6, 27, 30, 59, 62]), (6, [1, 32, 33, 34], [0, 1, 31, 32, 33, 34, 36, 37, 63]), (7, [1, 32, 33, 34, 35], [0, 1, 31, 32, 33, 34, 35, 36, 37, 63]), (8, [1, 5, 32, 33, 34], [0, 1, 5, 31, 32, 33, 34, 36, 37, 63]), (9, [1, 5, 32, 33, 34, 44], [0, 1, 5, 31, 32, 33, 34, 36, 37, 44, 63]), (10, [2], [2, 3, 6, 27, 30, 59, 62]), (11, [1, 6, 32, 33, 34], [0, 1, 6, 31, 32, 33, 34, 36, 37, 59, 63]), (12, [1, 6, 32, 33, 34, 61], [0, 1, 6, 31, 32, 33, 34, 36, 37, 59, 61, 63]), (13, [2], [2, 3, 6, 27, 30, 59, 62]), (14, [1, 32, 33, 34], [0, 1, 31, 32, 33, 34, 36, 37, 63]), (15, [2], [2, 3, 6, 27, 30, 59, 62])] r := rfl
@[simp] theorem pairs_47 (r : Nat) : E.pairs (47 : Nat) r = (lk [(3, [(2, 4)]), (11, [(2, 4), (2, 8), (5, 8), (2, 10), (5, 10)])] r).getD [] := rfl
@[simp] theorem mode_47 : E.mode (47 : Nat) = [] := rfl
@[simp] theorem keep_47 (d : Nat) : E.keep (47 : Nat) d = ([] : List Nat).contains d := rfl
@[simp] theorem take_47 (d : Nat) : E.take (47 : Nat) d = ([] : List Nat).contains d := rfl
theorem orc_47 {args : List Arg} {r : Res} (n : Nat) (h : evBody E (orc E) n (47 : Nat) Tryz.f47 args = some r) : fo 47 args = some r := orc_body n rfl rfl Tryz.func47 h
@[simp] theorem kill_48 (r : Nat) : E.kill (48 : Nat) r = (lk [(0, [[4]]), (1, [[0]]), (2, [[1], [6]]), (3, [[]])] r).getD [] := rfl
@[simp] theorem live_48 (r : Nat) : E.live (48 : Nat) r = lk [(0, [0, 1], [0, 1]), (1, [1, 5], [0, 1, 5]), (2, [4], [1, 4, 6]), (3, [4], [1, 4, 6])] r := rfl
@[simp] theorem pairs_48 (r : Nat) : E.pairs (48 : Nat) r = (lk [] r).getD [] := rfl
@[simp] theorem mode_48 : E.mode (48 : Nat) = [] := rfl
@[simp] theorem keep_48 (d : Nat) : E.keep (48 : Nat) d = ([] : List Nat).contains d := rfl
@[simp] theorem take_48 (d : Nat) : E.take (48 : Nat) d = ([] : List Nat).contains d := rfl
theorem orc_48 {args : List Arg} {r : Res} (n : Nat) (h : evBody E (orc E) n (48 : Nat) Tryz.f48 args = some r) : fo 48 args = some r := orc_body n rfl rfl Tryz.func48 h
@[simp] theorem kill_49 (r : Nat) : E.kill (49 : Nat) r = (lk [(0, [[4]]), (1, [[0], [1], [6], [5, 7], [8]])] r).getD [] := rfl
@[simp] theorem live_49 (r : Nat) : E.live (49 : Nat) r = lk [(0, [0, 1], [0, 1]), (1, [4], [4, 8])] r := rfl
@[simp] theorem pairs_49 (r : Nat) : E.pairs (49 : Nat) r = (lk [] r).getD [] := rfl
@[simp] theorem mode_49 : E.mode (49 : Nat) = [] := rfl
@[simp] theorem keep_49 (d : Nat) : E.keep (49 : Nat) d = ([] : List Nat).contains d := rfl
@[simp] theorem take_49 (d : Nat) : E.take (49 : Nat) d = ([] : List Nat).contains d := rfl
theorem orc_49 {args : List Arg} {r : Res} (n : Nat) (h : evBody E (orc E) n (49 : Nat) Tryz.f49 args = some r) : fo 49 args = some r := orc_body n rfl rfl Tryz.func49 h
@[simp] theorem kill_50 (r : Nat) : E.kill (50 : Nat) r = (lk [(0, [[2]]), (1, [[0], [3], [4]])] r).getD [] := rfl
@[simp] theorem live_50 (r : Nat) : E.live (50 : Nat) r = lk [(0, [0], [0]), (1, [2], [2, 4])] r := rfl
@[simp] theorem pairs_50 (r : Nat) : E.pairs (50 : Nat) r = (lk [] r).getD [] := rfl
@[simp] theorem mode_50 : E.mode (50 : Nat) = [] := rfl
@[simp] theorem keep_50 (d : Nat) : E.keep (50 : Nat) d = ([] : List Nat).contains d := rfl
@[simp] theorem take_50 (d : Nat) : E.take (50 : Nat) d = ([] : List Nat).contains d := rfl
theorem orc_50 {args : List Arg} {r : Res} (n : Nat) (h : evBody E (orc E) n (50 : Nat) Tryz.f50 args = some r) : fo 50 args = some r := orc_body n rfl rfl Tryz.func50 h
@[simp] theorem kill_51 (r : Nat) : E.kill (51 : Nat) r = (lk [(0, [[0], [6]]), (1, [[], [8], [1], [9, 10], [11], [999999], [12]])] r).getD [] := rfl
@[simp] theorem live_51 (r : Nat) : E.live (51 : Nat) r = lk [(0, [1, 2, 3], [0, 1, 2, 3, 8, 9, 10, 11, 12]), (1, [2, 3, 7], [0, 1, 2, 3, 7, 8, 9, 10, 11, 12]), (2, [6], [6, 19])] r := rfl
@[simp] theorem pairs_51 (r : Nat) : E.pairs (51 : Nat) r = (lk [(2, [(2, 4)])] r).getD [] := rfl
@[simp] theorem mode_51 : E.mode (51 : Nat) = [] := rfl
@[simp] theorem keep_51 (d : Nat) : E.keep (51 : Nat) d = ([] : List Nat).contains d := rfl
@[simp] theorem take_51 (d : Nat) : E.take (51 : Nat) d = ([] : List Nat).contains d := rfl
theorem orc_51 {args : List Arg} {r : Res} (n : Nat) (h : evBody E (orc E) n (51 : Nat) Tryz.f51 args = some r) : fo 51 args = some r := orc_body n rfl rfl Tryz.func51 h
@[simp] theorem kill_52 (r : Nat) : E.kill (52 : Nat) r = (lk [(0, [[0], [1], [4]])] r).getD [] := rfl
@[simp] theorem live_52 (r : Nat) : E.live (52 : Nat) r = lk [(0, [2, 3], [0, 1, 2, 3]), (1, [4], [4, 16])] r := rfl
@[simp] theorem pairs_52 (r : Nat) : E.pairs (52 : Nat) r = (lk [(1, [(4, 6), (4, 8)])] r).getD [] := rfl
@[simp] theorem mode_52 : E.mode (52 : Nat) = [] := rfl
@[simp] theorem keep_52 (d : Nat) : E.keep (52 : Nat) d = ([] : List Nat).contains d := rfl
@[simp] theorem take_52 (d : Nat) : E.take (52 : Nat) d = ([] : List Nat).contains d := rfl
theorem orc_52 {args : List Arg} {r : Res} (n : Nat) (h : evBody E (orc E) n (52 : Nat) Tryz.f52 args = some r) : fo 52 args = some r := orc_body n rfl rfl Tryz.func52 h
@[simp] theorem kill_53 (r : Nat) : E.kill (53 : Nat) r = (lk [(0, [[2]]), (1, [[], [3], [4], [], [6], [5, 7], [8], [0], [10], [9, 11], [12]])] r).getD [] := rfl
@[simp] theorem live_53 (r : Nat) : E.live (53 : Nat) r = lk [(0, [0], [0]), (1, [2], [2, 4, 5, 7, 8, 9, 11, 12])] r := rfl
@[simp] theorem pairs_53 (r : Nat) : E.pairs (53 : Nat) r = (lk [] r).getD [] := rfl
@[simp] theorem mode_53 : E.mode (53 : Nat) = [] := rfl
@[simp] theorem keep_53 (d : Nat) : E.keep (53 : Nat) d = ([] : List Nat).contains d := rfl
@[simp] theorem take_53 (d : Nat) : E.take (53 : Nat) d = ([] : List Nat).contains d := rfl
theorem orc_53 {args : List Arg} {r : Res} (n : Nat) (h : evBody E (orc E) n (53 : Nat) Tryz.f53 args = some r) : fo 53 args = some r := orc_body n rfl rfl Tryz.func53 h
@[simp] theorem kill_54 (r : Nat) : E.kill (54 : Nat) r = (lk [(0, [[4]]), (1, [[], [6], [], [8], [7, 9]]), (2, [[]]), (3, [[]]), (4, [[], [], [12], [11, 13]]), (7, [[]]), (5, [[], [15], [16]]), (8, [[]])] r).getD [] := rfl
@[simp] theorem live_54 (r : Nat) : E.live (54 : Nat) r = lk [(0, [0, 1], [0, 1]), (1, [0, 1, 10], [0, 1, 10]), (2, [4], [4]), (3, [0, 1, 5], [0, 1, 5, 16]), (4, [0, 1, 5, 14], [0, 1, 5, 14, 16]), (5, [0, 1, 5], [0, 1, 5, 16]), (6, [0, 1, 5, 26], [0, 1, 5, 16, 26]), (7, [4], [4]), (8, [4], [4])] r := rfl
@[simp] theorem pairs_54 (r : Nat) : E.pairs (54 : Nat) r = (lk [] r).getD [] := rfl
@[simp] theorem mode_54 : E.mode (54 : Nat) = [] := rfl
@[simp] theorem keep_54 (d : Nat) : E.keep (54 : Nat) d = ([] : List Nat).contains d := rfl
@[simp] theorem take_54 (d : Nat) : E.take (54 : Nat) d = ([] : List Nat).contains d := rfl
theorem orc_54 {args : List Arg} {r : Res} (n : Nat) (h : evBody E (orc E) n (54 : Nat) Tryz.f54 args = some r) : fo 54 args = some r := orc_body n rfl rfl Tryz.func54 h
@[simp] theorem kill_55 (r : Nat) : E.kill (55 : Nat) r = (lk [(0, [[4]]), (1, [[], [6], [], [8], [7, 9]]), (2, [[]]), (3, [[]]), (4, [[], [], [12], [11, 13]]), (7, [[]]), (5, [[], [15], [16]]), (8, [[]])] r).getD [] := rfl
@[simp] theorem live_55 (r : Nat) : E.live (55 : Nat) r = lk [(0, [0, 1], [0, 1]), (1, [0, 1, 10], [0, 1, 10]), (2, [4], [4]), (3, [0, 1, 5], [0, 1, 5, 16]), (4, [0, 1, 5, 14], [0, 1, 5, 14, 16]), (5, [0, 1, 5], [0, 1, 5, 16]), (6, [0, 1, 5, 26], [0, 1, 5, 16, 26]), (7, [4], [4]), (8, [4], [4])] r := rfl
@[simp] theorem pairs_55 (r : Nat) : E.pairs (55 : Nat) r = (lk [] r).getD [] := rfl
@[simp] theorem mode_55 : E.mode (55 : Nat) = [] := rfl
@[simp] theorem keep_55 (d : Nat) : E.keep (55 : Nat) d = ([] : List Nat).contains d := rfl
@[simp] theorem take_55 (d : Nat) : E.take (55 : Nat) d = ([] : List Nat).contains d := rfl
theorem orc_55 {args : List Arg} {r : Res} (n : Nat) (h : evBody E (orc E) n (55 : Nat) Tryz.f55 args = some r) : fo 55 args = some r := orc_body n rfl rfl Tryz.func55 h
@[simp] theorem kill_56 (r : Nat) : E.kill (56 : Nat) r = (lk [(0, [[0], [1], [4]]), (1, [[], [5], [], [7], [6, 8]]), (2, [[]]), (3, [[], [10], [], [12], [11, 13]]), (4, [[]]), (5, [[2], [15], [3], [17], [16, 18]]), (6, [[]]), (7, [[]])] r).getD [] := rfl
@[simp] theorem live_56 (r : Nat) : E.live (56 : Nat) r = lk [(0, [2, 3], [0, 1, 2, 3]), (1, [2, 3, 9], [0, 1, 2, 3, 9]), (2, [4], [4]), (3, [2, 3, 14], [0, 1, 2, 3, 14]), (4, [4], [4]), (5, [19], [19]), (6, [4], [4]), (7, [4], [4])] r := rfl
@[simp] theorem pairs_56 (r : Nat) : E.pairs (56 : Nat) r = (lk [] r).getD [] := rfl
@[simp] theorem mode_56 : E.mode (56 : Nat) = [] := rfl
@[simp] theorem keep_56 (d : Nat) : E.keep (56 : Nat) d = ([] : List Nat).contains d := rfl
@[simp] theorem take_56 (d : Nat) : E.take (56 : Nat) d = ([] : List Nat).contains d := rfl
theorem orc_56 {args : List Arg} {r : Res} (n : Nat) (h : evBody E (orc E) n (56 : Nat) Tryz.f56 args = some r) : fo 56 args = some r := orc_body n rfl rfl Tryz.func56 h
@[simp] theorem kill_57 (r : Nat) : E.kill (57 : Nat) r = (lk [(0, [[4]]), (1, [[], [0], [6], [5, 7], [8]]), (2, [[], [9]]), (3, [[]]), (4, [[1], [11]])] r).getD [] := rfl
@[simp] theorem live_57 (r : Nat) : E.live (57 : Nat) r = lk [(0, [0, 1], [0, 1, 8]), (1, [1], [1, 8]), (2, [1, 10], [1, 8, 10]), (3, [4], [1, 4, 8, 11]), (4, [4], [1, 4, 8, 11])] r := rfl
@[simp] theorem pairs_57 (r : Nat) : E.pairs (57 : Nat) r = (lk [] r).getD [] := rfl
@[simp] theorem mode_57 : E.mode (57 : Nat) = [] := rfl
@[simp] theorem keep_57 (d : Nat) : E.keep (57 : Nat) d = ([] : List Nat).contains d := rfl
@[simp] theorem take_57 (d : Nat) : E.take (57 : Nat) d = ([] : List Nat).contains d := rfl
theorem orc_57 {args : List Arg} {r : Res} (n : Nat) (h : evBody E (orc E) n (57 : Nat) Tryz.f57 args = some r) : fo 57 args = some r := orc_body n rfl rfl Tryz.func57 h
@[simp] theorem kill_58 (r : Nat) : E.kill (58 : Nat) r = (lk [(0, [[2]]), (2, [[]]), (3, [[], [20], [21], [22], [23], [24], [], [19], [3, 25], [26]]), (4, [[4], [], [28], [29], [30], [31], [27, 32]]), (5, [[]]), (6, [[], [35], [36], [37], [38], [39], [], [34], [5, 40], [41]]), (7, [[6], [0], [43], [44], [45], [46], [42, 47]]), (8, [[]]), (9, [[]])] r).getD [] := rfl
@[simp] theorem live_58 (r : Nat) : E.live (58 : Nat) r = lk [(0, [0], [0]), (1, [0, 18], [0, 18]), (2, [2], [2]), (3, [0, 4], [0, 4, 19, 24, 26]), (4, [0, 33], [0, 33]), (5, [2], [2]), (6, [0, 6], [0, 6, 34, 39, 41]), (7, [48], [48]), (8, [2], [2]), (9, [2], [2])] r := rfl
@[simp] theorem pairs_58 (r : Nat) : E.pairs (58 : Nat) r = (lk [] r).getD [] := rfl
@[simp] theorem mode_58 : E.mode (58 : Nat) = [] := rfl
@[simp] theorem keep_58 (d : Nat) : E.keep (58 : Nat) d = ([] : List Nat).contains d := rfl
@[simp] theorem take_58 (d : Nat) : E.take (58 : Nat) d = ([] : List Nat).contains d := rfl
theorem orc_58 {args : List Arg} {r : Res} (n : Nat) (h : evBody E (orc E) n (58 : Nat) Tryz.f58 args = some r) : fo 58 args = some r := orc_body n rfl rfl Tryz.func58 h
@[simp] theorem kill_59 (r : Nat) : E.kill (59 : Nat) r = (lk [(0, [[2]]), (1, [[], [5], [6], [7]]), (2, [[]]), (3, [[], [], [9], [8, 10]]), (5, [[], [], [], [], [16, 17], [18], [14, 15], [19, 20]]), (4, [[], [12], [13]]), (6, [[3], [21]])] r).getD [] := rfl
@[simp] theorem live_59 (r : Nat) : E.live (59 : Nat) r = lk [(0, [0], [0, 4, 13, 16, 17, 18, 19]), (1, [0, 3], [0, 3, 4, 7, 13, 16, 17, 18, 19]), (2, [0, 3, 4], [0, 3, 4, 7, 13, 16, 17, 18, 19]), (3, [0, 3, 4, 11], [0, 3, 4, 7, 11, 13, 16, 17, 18, 19]), (4, [0, 3, 4], [0, 3, 4, 7, 13, 16, 17, 18, 19]), (5, [0, 3, 4], [0, 3, 4, 7, 13, 16, 17, 18, 19]), (6, [2], [0, 2, 3, 4, 7, 13, 16, 17, 18, 19, 21])] r := rfl
@[simp] theorem pairs_59 (r : Nat) : E.pairs (59 : Nat) r = (lk [] r).getD [] := rfl
@[simp] theorem mode_59 : E.mode (59 : Nat) = [] := rfl
@[simp] theorem keep_59 (d : Nat) : E.keep (59 : Nat) d = ([] : List Nat).contains d := rfl
@[simp] theorem take_59 (d : Nat) : E.take (59 : Nat) d = ([] : List Nat).contains d := rfl
theorem orc_59 {args : List Arg} {r : Res} (n : Nat) (h : evBody E (orc E) n (59 : Nat) Tryz.f59 args = some r) : fo 59 args = some r := orc_body n rfl rfl Tryz.func59 h
@[simp] theorem kill_60 (r : Nat) : E.kill (60 : Nat) r = (lk [(0, [[2]]), (1, [[0], [6], [7], [], [5], [3, 8], [9]]), (2, [[4], [10], [11], [12]])] r).getD [] := rfl
@[simp] theorem live_60 (r : Nat) : E.live (60 : Nat) r = lk [(0, [0], [0]), (1, [4], [4, 5, 7, 9]), (2, [2], [2, 12])] r := rfl
@[simp] theorem pairs_60 (r : Nat) : E.pairs (60 : Nat) r = (lk [] r).getD [] := rfl
@[simp] theorem mode_60 : E.mode (60 : Nat) = [] := rfl
@[simp] theorem keep_60 (d : Nat) : E.keep (60 : Nat) d = ([] : List Nat).contains d := rfl
@[simp] theorem take_60 (d : Nat) : E.take (60 : Nat) d = ([] : List Nat).contains d := rfl
theorem orc_60 {args : List Arg} {r : Res} (n : Nat) (h : evBody E (orc E) n (60 : Nat) Tryz.f60 args = some r) : fo 60 args = some r := orc_body n rfl rfl Tryz.func60 h
@[simp] theorem kill_61 (r : Nat) : E.kill (61 : Nat) r = (lk [(0, [[4]]), (1, [[], [6], [], [8], [7, 9]]), (2, [[]]), (3, [[]]), (4, [[], [], [12], [11, 13]]), (7, [[]]), (5, [[], [15], [16]]), (8, [[]])] r).getD [] := rfl
@[simp] theorem live_61 (r : Nat) : E.live (61 : Nat) r = lk [(0, [0, 1], [0, 1]), (1, [0, 1, 10], [0, 1, 10]), (2, [4], [4]), (3, [0, 1, 5], [0, 1, 5, 16]), (4, [0, 1, 5, 14], [0, 1, 5, 14, 16]), (5, [0, 1, 5], [0, 1, 5, 16]), (6, [0, 1, 5, 25], [0, 1, 5, 16, 25]), (7, [4], [4]), (8, [4], [4])] r := rfl
@[simp] theorem pairs_61 (r : Nat) : E.pairs (61 : Nat) r = (lk [] r).getD [] := rfl
@[simp] theorem mode_61 : E.mode (61 : Nat) = [] := rfl
@[simp] theorem keep_61 (d : Nat) : E.keep (61 : Nat) d = ([] : List Nat).contains d := rfl
@[simp] theorem take_61 (d : Nat) : E.take (61 : Nat) d = ([] : List Nat).contains d := rfl
theorem orc_61 {args : List Arg} {r : Res} (n : Nat) (h : evBody E (orc E) n (61 : Nat) Tryz.f61 args = some r) : fo 61 args = some r := orc_body n rfl rfl Tryz.func61 h
@[simp] theorem kill_62 (r : Nat) : E.kill (62 : Nat) r = (lk [(0, [[0], [4]]), (1, [[2], [5], [], [6, 7], [8]]), (2, [[], [9]]), (3, [[]]), (4, [[1], [11]])] r).getD [] := rfl
@[simp] theorem live_62 (r : Nat) : E.live (62 : Nat) r = lk [(0, [1, 2], [0, 1, 2, 8]), (1, [1], [1, 8]), (2, [1, 10], [1, 8, 10]), (3, [4], [1, 4, 8, 11]), (4, [4], [1, 4, 8, 11])] r := rfl
@[simp] theorem pairs_62 (r : Nat) : E.pairs (62 : Nat) r = (lk [] r).getD [] := rfl
@[simp] theorem mode_62 : E.mode (62 : Nat) = [] := rfl
@[simp] theorem keep_62 (d : Nat) : E.keep (62 : Nat) d = ([] : List Nat).contains d := rfl
@[simp] theorem take_62 (d : Nat) : E.take (62 : Nat) d = ([] : List Nat).contains d := rfl
theorem orc_62 {args : List Arg} {r : Res} (n : Nat) (h : evBody E (orc E) n (62 : Nat) Tryz.f62 args = some r) : fo 62 args = some r := orc_body n rfl rfl Tryz.func62 h
@[simp] theorem kill_63 (r : Nat) : E.kill (63 : Nat) r = (lk [(0, [[0], [4]]), (1, [[2], [5], [], [6, 7], [8]]), (2, [[], [9]]), (3, [[]]), (4, [[1], [11]])] r).getD [] := rfl
@[simp] theorem live_63 (r : Nat) : E.live (63 : Nat) r = lk [(0, [1, 2], [0, 1, 2, 8]), (1, [1], [1, 8]), (2, [1, 10], [1, 8, 10]), (3, [4], [1, 4, 8, 11]), (4, [4], [1, 4, 8, 11])] r := rfl
@[simp] theorem pairs_63 (r : Nat) : E.pairs (63 : Nat) r = (lk [] r).getD [] := rfl
@[simp] theorem mode_63 : E.mode (63 : Nat) = [] := rfl
@[simp] theorem keep_63 (d : Nat) : E.keep (63 : Nat) d = ([] : List Nat).contains d := rfl
@[simp] theorem take_63 (d : Nat) : E.take (63 : Nat) d = ([] : List Nat).contains d := rfl
theorem orc_63 {args : List Arg} {r : Res} (n : Nat) (h : evBody E (orc E) n (63 : Nat) Tryz.f63 args = some r) : fo 63 args = some r := orc_body n rfl rfl Tryz.func63 h
@[simp] theorem kill_64 (r : Nat) : E.kill (64 : Nat) r = (lk [(0, [[2]]), (1, [[], [5], [6], [7], [], [9], [10], [8, 11]]), (2, [[]]), (3, [[]]), (4, [[], [], [14], [13, 15]]), (6, [[], [], [19, 20], [21], [22], [23], [24]]), (7, [[], [25]]), (8, [[4], [27]]), (5, [[], [17], [18]]), (9, [[]])] r).getD [] := rfl
@[simp] theorem live_64 (r : Nat) : E.live (64 : Nat) r = lk [(0, [0], [0]), (1, [0, 12], [0, 7, 8, 11, 12]), (2, [2], [2, 4, 24, 27]), (3, [0, 3], [0, 3, 18]), (4, [0, 3, 16], [0, 3, 16, 18]), (5, [0, 3], [0, 3, 18]), (6, [0, 3, 4], [0, 3, 4, 18, 24]), (7, [0, 3, 4, 26], [0, 3, 4, 18, 24, 26]), (8, [2], [2, 4, 24, 27]), (9, [2], [2, 4, 24, 27])] r := rfl
@[simp] theorem pairs_64 (r : Nat) : E.pairs (64 : Nat) r = (lk [] r).getD [] := rfl
@[simp] theorem mode_64 : E.mode (64 : Nat) = [] := rfl
@[simp] theorem keep_64 (d : Nat) : E.keep (64 : Nat) d = ([] : List Nat).contains d := rfl
@[simp] theorem take_64 (d : Nat) : E.take (64 : Nat) d = ([] : List Nat).contains d := rfl
theorem orc_64 {args : List Arg} {r : Res} (n : Nat) (h : evBody E (orc E) n (64 : Nat) Tryz.f64 args = some r) : fo 64 args = some r := orc_body n rfl rfl Tryz.func64 h
@[simp] theorem kill_65 (r : Nat) : E.kill (65 : Nat) r = (lk [(0, [[2]]), (1, [[0], [3], [4]])] r).getD [] := rfl
@[simp] theorem live_65 (r : Nat) : E.live (65 : Nat) r = lk [(0, [0], [0]), (1, [2], [2, 4])] r := rfl
@[simp] theorem pairs_65 (r : Nat) : E.pairs (65 : Nat) r = (lk [] r).getD [] := rfl
@[simp] theorem mode_65 : E.mode (65 : Nat) = [] := rfl
@[simp] theorem keep_65 (d : Nat) : E.keep (65 : Nat) d = ([] : List Nat).contains d := rfl
@[simp] theorem take_65 (d : Nat) : E.take (65 : Nat) d = ([] : List Nat).contains d := rfl
theorem orc_65 {args : List Arg} {r : Res} (n : Nat) (h : evBody E (orc E) n (65 : Nat) Tryz.f65 args = some r) : fo 65 args = some r := orc_body n rfl rfl Tryz.func65 h
@[simp] theorem kill_66 (r : Nat) : E.kill (66 : Nat) r = (lk [(0, [[4]]), (1, [[], [10], [11]]), (2, [[], [12]]), (3, [[5], [14]]), (4, [[], [15], [16], [17], [18], [19], [20], [], [22], [23], [24], [25], [26], [21, 27]]), (5, [[]]), (6, [[], [29], [30], [31], [32], [33]]), (7, [[], [34]]), (8, [[6], [36]]), (9, [[], [37], [38], [39], [40], [], [42], [41, 43], [44], [], [46], [47], [48], [49], [], [51], [50, 52], [45, 53]]), (10, [[]]), (11, [[]]), (12, [[]]), (13, [[], [], [56], [55, 57]]), (16, [[]]), (17, [[], [86], [], [88], [89], [90], [], [91, 92], [93], [94], [87, 95], [96], [], [98], [99], [100], [], [101, 102], [103], [104], [97, 105], [106]]), (14, [[], [59], [60]]), (18, [[], [107], [108], [109], [110]]), (19, [[7]]), (20, [[]]), (21, [[]]), (22, [[], [113], [114], [115], [116], [117], [118]]), (23, [[]]), (24, [[]]), (25, [[], [], [121], [120, 122]]), (27, [[], [], [], [126, 127, 128]]), (28, [[]]), (26, [[], [124], [125]]), (29, [[]])] r).getD [] := rfl
@[simp] theorem live_66 (r : Nat) : E.live (66 : Nat) r = lk [(0, [0, 1], [0, 1]), (1, [0, 1, 5], [0, 1, 5, 11]), (2, [0, 1, 5, 13], [0, 1, 5, 11, 13]), (3, [4], [4, 5, 6, 11, 14, 33, 36]), (4, [0, 1, 28], [0, 1, 20, 21, 27, 28]), (5, [4], [4, 5, 6, 11, 14, 33, 36]), (6, [0, 1, 6], [0, 1, 6, 33]), (7, [0, 1, 6, 35], [0, 1, 6, 33, 35]), (8, [4], [4, 5, 6, 11, 14, 33, 36]), (9, [0, 1, 54], [0, 1, 44, 45, 53, 54]), (10, [4], [4, 5, 6, 11, 14, 33, 36]), (11, [0, 1, 7], [0, 1, 7, 86, 87, 95, 96, 97, 105, 106]), (12, [0, 1, 7, 8], [0, 1, 7, 8, 60, 86, 87, 95, 96, 97, 105, 106]), (13, [0, 1, 7, 8, 58], [0, 1, 7, 8, 58, 60, 86, 87, 95, 96, 97, 105, 106]), (14, [0, 1, 7, 8], [0, 1, 7, 8, 60, 86, 87, 95, 96, 97, 105, 106]), (15, [0, 1, 7, 8, 85], [0, 1, 7, 8, 60, 69, 70, 84, 85, 86, 87, 95, 96, 97, 105, 106]), (16, [4], [4, 5, 6, 11, 14, 33, 36]), (17, [0, 1, 7, 8], [0, 1, 7, 8, 60, 86, 87, 95, 96, 97, 105, 106]), (18, [0, 1, 7, 111], [0, 1, 7, 86, 87, 95, 96, 97, 105, 106, 111]), (19, [112], [7, 86, 87, 95, 96, 97, 105, 106, 112]), (20, [4], [4, 5, 6, 11, 14, 33, 36]), (21, [4], [4, 5, 6, 11, 14, 33, 36]), (22, [0, 1, 119], [0, 1, 119]), (23, [4], [4, 5, 6, 11, 14, 33, 36]), (24, [0, 1, 9], [0, 1, 9, 125]), (25, [0, 1, 9, 123], [0, 1, 9, 123, 125]), (26, [0, 1, 9], [0, 1, 9, 125]), (27, [0, 1, 9, 129], [0, 1, 9, 125, 129]), (28, [4], [4, 5, 6, 11, 14, 33, 36]), (29, [4], [4, 5, 6, 11, 14, 33, 36])] r := rfl
@[simp] theorem pairs_66 (r : Nat) : E.pairs (66 : Nat) r = (lk [] r).getD [] := rfl
@[simp] theorem mode_66 : E.mode (66 : Nat) = [] := rfl
@[simp] theorem keep_66 (d : Nat) : E.keep (66 : Nat) d = ([] : List Nat).contains d := rfl
@[simp] theorem take_66 (d : Nat) : E.take (66 : Nat) d = ([] : List Nat).contains d := rfl
theorem orc_66 {args : List Arg} {r : Res} (n : Nat) (h : evBody E (orc E) n (66 : Nat) Tryz.f66 args = some r) : fo 66 args = some r := orc_body n rfl rfl Tryz.func66 h
@[simp] theorem kill_67 (r : Nat) : E.kill (67 : Nat) r = (lk [(0, [[0], []]), (1, [[]]), (2, [[1], [4], [5], [], [6, 7]]), (3, [[3], [8]])] r).getD [] := rfl
@[simp] theorem live_67 (r : Nat) : E.live (67 : Nat) r = lk [(0, [1, 2], [0, 1, 2, 3, 6, 8]), (1, [1, 2, 3], [0, 1, 2, 3, 6, 8]), (2, [2, 3], [2, 3, 6, 8]), (3, [2], [2, 3, 6, 8])] r := rfl
@[simp] theorem pairs_67 (r : Nat) : E.pairs (67 : Nat) r = (lk [] r).getD [] := rfl
@[simp] theorem mode_67 : E.mode (67 : Nat) = [] := rfl
@[simp] theorem keep_67 (d : Nat) : E.keep (67 : Nat) d = ([] : List Nat).contains d := rfl
@[simp] theorem take_67 (d : Nat) : E.take (67 : Nat) d = ([] : List Nat).contains d := rfl
theorem orc_67 {args : List Arg} {r : Res} (n : Nat) (h : evBody E (orc E) n (67 : Nat) Tryz.f67 args = some r) : fo 67 args = some r := orc_body n rfl rfl Tryz.func67 h
@[simp] theorem kill_68 (r : Nat) : E.kill (68 : Nat) r = (lk [(0, [[0], []]), (1, [[]]), (2, [[], [4], [], [5, 6]]), (3, [[1], [7], [8], [], [9, 10]]), (4, [[3], [11]])] r).getD [] := rfl
@[simp] theorem live_68 (r : Nat) : E.live (68 : Nat) r = lk [(0, [1, 2], [0, 1, 2, 3, 4, 5, 9, 11]), (1, [1, 2, 3], [0, 1, 2, 3, 4, 5, 9, 11]), (2, [1, 2, 3], [0, 1, 2, 3, 4, 5, 9, 11]), (3, [2, 3], [0, 1, 2, 3, 4, 5, 9, 11]), (4, [2], [0, 1, 2, 3, 4, 5, 9, 11])] r := rfl
@[simp] theorem pairs_68 (r : Nat) : E.pairs (68 : Nat) r = (lk [] r).getD [] := rfl
@[simp] theorem mode_68 : E.mode (68 : Nat) = [] := rfl
@[simp] theorem keep_68 (d : Nat) : E.keep (68 : Nat) d = ([] : List Nat).contains d := rfl
@[simp] theorem take_68 (d : Nat) : E.take (68 : Nat) d = ([] : List Nat).contains d := rfl
theorem orc_68 {args : List Arg} {r : Res} (n : Nat) (h : evBody E (orc E) n (68 : Nat) Tryz.f68 args = some r) : fo 68 args = some r := orc_body n rfl rfl Tryz.func68 h
@[simp] theorem kill_69 (r : Nat) : E.kill (69 : Nat) r = (lk [(0, [[6]]), (1, [[1], [], [7, 8], [9], [0], [2], [11, 12], [10, 13], [14]])] r).getD [] := rfl
@[simp] theorem live_69 (r : Nat) : E.live (69 : Nat) r = lk [(0, [0, 1, 2], [0, 1, 2]), (1, [6], [6, 9, 10, 13, 14])] r := rfl
@[simp] theorem pairs_69 (r : Nat) : E.pairs (69 : Nat) r = (lk [] r).getD [] := rfl
@[simp] theorem mode_69 : E.mode (69 : Nat) = [] := rfl
@[simp] theorem keep_69 (d : Nat) : E.keep (69 : Nat) d = ([] : List Nat).contains d := rfl
@[simp] theorem take_69 (d : Nat) : E.take (69 : Nat) d = ([] : List Nat).contains d := rfl
theorem orc_69 {args : List Arg} {r : Res} (n : Nat) (h : evBody E (orc E) n (69 : Nat) Tryz.f69 args = some r) : fo 69 args = some r := orc_body n rfl rfl Tryz.func69 h
@[simp] theorem kill_70 (r : Nat) : E.kill (70 : Nat) r = (lk [(0, [[2]]), (1, [[], [6], [7], [8]]), (2, [[]]), (3, [[0], [], []]), (4, [[]]), (5, [[], [14], [999999], [15]]), (6, [[4], [16], [17], [18]]), (7, [[], [19]]), (8, [[5], [21]]), (9, [[], [22]]), (10, [[]])] r).getD [] := rfl
@[simp] theorem live_70 (r : Nat) : E.live (70 : Nat) r = lk [(0, [0], [0, 10, 12, 14, 15, 22]), (1, [0, 9], [0, 9, 10, 12, 14, 15, 22]), (2, [2], [2, 5, 18, 21]), (3, [10, 11, 12], [0, 10, 11, 12, 14, 15, 22]), (4, [10, 11, 12, 13], [0, 10, 11, 12, 13, 14, 15, 22]), (5, [4, 10, 11, 12], [0, 4, 10, 11, 12, 14, 15, 22]), (6, [5, 10, 11, 12], [0, 5, 10, 11, 12, 14, 15, 18, 22]), (7, [5, 10, 11, 12, 20], [0, 5, 10, 11, 12, 14, 15, 18, 20, 22]), (8, [2], [2, 5, 18, 21]), (9, [10, 11, 12], [0, 10, 11, 12, 14, 15, 22]), (10, [2], [2, 5, 18, 21])] r := rfl
@[simp] theorem pairs_70 (r : Nat) : E.pairs (70 : Nat) r = (lk [] r).getD [] := rfl
@[simp] theorem mode_70 : E.mode (70 : Nat) = [] := rfl
@[simp] theorem keep_70 (d : Nat) : E.keep (70 : Nat) d = ([] : List Nat).contains d := rfl
@[simp] theorem take_70 (d : Nat) : E.take (70 : Nat) d = ([] : List Nat).contains d := rfl
theorem orc_70 {args : List Arg} {r : Res} (n : Nat) (h : evBody E (orc E) n (70 : Nat) Tryz.f70 args = some r) : fo 70 args = some r := orc_body n rfl rfl Tryz.func70 h
@[simp] theorem kill_71 (r : Nat) : E.kill (71 : Nat) r = (lk [(0, [[2]]), (1, [[0], [3], [4]])] r).getD [] := rfl
@[simp] theorem live_71 (r : Nat) : E.live (71 : Nat) r = lk [(0, [0], [0]), (1, [2], [2, 4])] r := rfl
@[simp] theorem pairs_71 (r : Nat) : E.pairs (71 : Nat) r = (lk [] r).getD [] := rfl
@[simp] theorem mode_71 : E.mode (71 : Nat) = [] := rfl
@[simp] theorem keep_71 (d : Nat) : E.keep (71 : Nat) d = ([] : List Nat).contains d := rfl
@[simp] theorem take_71 (d : Nat) : E.take (71 : Nat) d = ([] : List Nat).contains d := rfl
theorem orc_71 {args : List Arg} {r : Res} (n : Nat) (h : evBody E (orc E) n (71 : Nat) Tryz.f71 args = some r) : fo 71 args = some r := orc_body n rfl rfl Tryz.func71 h
@[simp] theorem kill_72 (r : Nat) : E.kill (72 : Nat) r = (lk [(0, [[1], [4]]), (2, [[], [40]]), (3, [[5], [42]]), (4, [[], [43], [44], [45], [46], [], [48], [], [50], [51], [49, 52], [53], [47, 54]]), (5, [[]]), (6, [[0], [3], [56, 57], [58], [59]]), (7, [[6], [60], [61], [62], [63]])] r).getD [] := rfl
@[simp] theorem live_72 (r : Nat) : E.live (72 : Nat) r = lk [(0, [0, 3], [0, 1, 3, 56, 57, 58]), (1, [0, 3, 5], [0, 1, 3, 5, 39, 56, 57, 58]), (2, [0, 3, 5, 41], [0, 1, 3, 5, 39, 41, 56, 57, 58]), (3, [4], [4, 5, 39, 42, 63]), (4, [0, 3, 55], [0, 1, 3, 46, 47, 54, 55, 56, 57, 58]), (5, [4], [4, 5, 39, 42, 63]), (6, [6], [0, 1, 3, 6, 56, 57, 58, 59]), (7, [4], [4, 5, 39, 42, 63])] r := rfl
@[simp] theorem pairs_72 (r : Nat) : E.pairs (72 : Nat) r = (lk [(1, [(1, 3), (1, 14), (4, 14), (9, 14), (12, 14), (1, 17), (4, 17), (9, 17), (12, 17), (15, 17)])] r).getD [] := rfl
@[simp] theorem mode_72 : E.mode (72 : Nat) = [] := rfl
@[simp] theorem keep_72 (d : Nat) : E.keep (72 : Nat) d = ([] : List Nat).contains d := rfl
@[simp] theorem take_72 (d : Nat) : E.take (72 : Nat) d = ([] : List Nat).contains d := rfl
theorem orc_72 {args : List Arg} {r : Res} (n : Nat) (h : evBody E (orc E) n (72 : Nat) Tryz.f72 args = some r) : fo 72 args = some r := orc_body n rfl rfl Tryz.func72 h
@[simp] theorem kill_73 (r : Nat) : E.kill (73 : Nat) r = (lk [(0, [[1], [6]]), (1, [[], [], [8], [7, 9], [10], [0], [], [12, 13], [14], [15], [16], [11, 17], [18], [4], [20], [2], [21, 22], [23], [24], [19, 25], [26]])] r).getD [] := rfl
@[simp] theorem live_73 (r : Nat) : E.live (73 : Nat) r = lk [(0, [0, 2, 4], [0, 1, 2, 4]), (1, [6], [6, 10, 11, 17, 18, 19, 25, 26])] r := rfl
@[simp] theorem pairs_73 (r : Nat) : E.pairs (73 : Nat) r = (lk [] r).getD [] := rfl
@[simp] theorem mode_73 : E.mode (73 : Nat) = [] := rfl
@[simp] theorem keep_73 (d : Nat) : E.keep (73 : Nat) d = ([] : List Nat).contains d := rfl
@[simp] theorem take_73 (d : Nat) : E.take (73 : Nat) d = ([] : List Nat).contains d := rfl
theorem orc_73 {args : List Arg} {r : Res} (n : Nat) (h : evBody E (orc E) n (73 : Nat) Tryz.f73 args = some r) : fo 73 args = some r := orc_body n rfl rfl Tryz.func73 h
@[simp] theorem kill_74 (r : Nat) : E.kill (74 : Nat) r = (lk [(0, [[2]]), (1, [[]]), (2, [[0], [], []]), (3, [[]]), (4, [[], [10], [11]]), (5, [[], [], [12, 13]]), (6, [[5], [15]]), (7, [[], [16]]), (8, [[3], [17]])] r).getD [] := rfl
@[simp] theorem live_74 (r : Nat) : E.live (74 : Nat) r = lk [(0, [0], [0]), (1, [0, 3], [0, 3]), (2, [3, 6, 7, 8], [0, 3, 6, 7, 8, 16]), (3, [3, 6, 7, 8, 9], [0, 3, 6, 7, 8, 9, 16]), (4, [3, 5, 6, 7, 8], [0, 3, 5, 6, 7, 8, 10, 11, 16]), (5, [3, 5, 6, 7, 8, 14], [0, 3, 5, 6, 7, 8, 10, 11, 14, 16]), (6, [2], [0, 2, 3, 5, 6, 8, 10, 11, 15, 16, 17]), (7, [3, 6, 7, 8], [0, 3, 6, 7, 8, 16]), (8, [2], [0, 2, 3, 5, 6, 8, 10, 11, 15, 16, 17])] r := rfl
@[simp] theorem pairs_74 (r : Nat) : E.pairs (74 : Nat) r = (lk [] r).getD [] := rfl
@[simp] theorem mode_74 : E.mode (74 : Nat) = [] := rfl
@[simp] theorem keep_74 (d : Nat) : E.keep (74 : Nat) d = ([] : List Nat).contains d := rfl
@[simp] theorem take_74 (d : Nat) : E.take (74 : Nat) d = ([] : List Nat).contains d := rfl
theorem orc_74 {args : List Arg} {r : Res} (n : Nat) (h : evBody E (orc E) n (74 : Nat) Tryz.f74 args = some r) : fo 74 args = some r := orc_body n rfl rfl Tryz.func74 h
@[simp] theorem kill_75 (r : Nat) : E.kill (75 : Nat) r = (lk [(0, [[4]]), (1, [[], [7], [8]]), (2, [[], [9], [10]]), (3, [[5]]), (4, [[6]]), (5, [[]]), (6, [[]]), (7, [[6]]), (8, [[]]), (9, [[], [], [14, 15]]), (10, [[]]), (11, [[0], [1], [17, 18]]), (12, [[]]), (13, [[]])] r).getD [] := rfl
@[simp] theorem live_75 (r : Nat) : E.live (75 : Nat) r = lk [(0, [0, 1], [0, 1]), (1, [0, 1, 5], [0, 1, 5, 8]), (2, [0, 1, 5, 6], [0, 1, 5, 6, 8, 10]), (3, [0, 1, 6, 11], [0, 1, 5, 6, 8, 10, 11]), (4, [12], [6, 10, 12]), (5, [4], [4]), (6, [4], [4]), (7, [0, 1, 13], [0, 1, 6, 10, 13]), (8, [4], [4]), (9, [0, 1, 16], [0, 1, 16]), (10, [4], [4]), (11, [19], [19]), (12, [4], [4]), (13, [4], [4])] r := rfl
@[simp] theorem pairs_75 (r : Nat) : E.pairs (75 : Nat) r = (lk [] r).getD [] := rfl
@[simp] theorem mode_75 : E.mode (75 : Nat) = [] := rfl
@[simp] theorem keep_75 (d : Nat) : E.keep (75 : Nat) d = ([] : List Nat).contains d := rfl
@[simp] theorem take_75 (d : Nat) : E.take (75 : Nat) d = ([] : List Nat).contains d := rfl
theorem orc_75 {args : List Arg} {r : Res} (n : Nat) (h : evBody E (orc E) n (75 : Nat) Tryz.f75 args = some r) : fo 75 args = some r := orc_body n rfl rfl Tryz.func75 h
@[simp] theorem kill_76 (r : Nat) : E.kill (76 : Nat) r = (lk [(0, [[0], [1], [4]]), (1, [[2], [5], [3], [7], [6, 8], [9]]), (2, [[]]), (3, [[]])] r).getD [] := rfl
@[simp] theorem live_76 (r : Nat) : E.live (76 : Nat) r = lk [(0, [2, 3], [0, 1, 2, 3]), (1, [10], [10]), (2, [4], [4]), (3, [4], [4])] r := rfl
@[simp] theorem pairs_76 (r : Nat) : E.pairs (76 : Nat) r = (lk [] r).getD [] := rfl
@[simp] theorem mode_76 : E.mode (76 : Nat) = [] := rfl
@[simp] theorem keep_76 (d : Nat) : E.keep (76 : Nat) d = ([] : List Nat).contains d := rfl
@[simp] theorem take_76 (d : Nat) : E.take (76 : Nat) d = ([] : List Nat).contains d := rfl
theorem orc_76 {args : List Arg} {r : Res} (n : Nat) (h : evBody E (orc E) n (76 : Nat) Tryz.f76 args = some r) : fo 76 args = some r := orc_body n rfl rfl Tryz.func76 h
@[simp] theorem kill_77 (r : Nat) : E.kill (77 : Nat) r = (lk [(0, [[0], [1], [4]]), (1, [[], [5], [], [7], [6, 8]]), (2, [[]]), (3, [[2], [10], [3], [12], [11, 13], [14]]), (4, [[]]), (5, [[]])] r).getD [] := rfl
@[simp] theorem live_77 (r : Nat) : E.live (77 : Nat) r = lk [(0, [2, 3], [0, 1, 2, 3]), (1, [2, 3, 9], [0, 1, 2, 3, 9]), (2, [4], [4]), (3, [15], [15]), (4, [4], [4]), (5, [4], [4])] r := rfl
@[simp] theorem pairs_77 (r : Nat) : E.pairs (77 : Nat) r = (lk [] r).getD [] := rfl
@[simp] theorem mode_77 : E.mode (77 : Nat) = [] := rfl
@[simp] theorem keep_77 (d : Nat) : E.keep (77 : Nat) d = ([] : List Nat).contains d := rfl
@[simp] theorem take_77 (d : Nat) : E.take (77 : Nat) d = ([] : List Nat).contains d := rfl
theorem orc_77 {args : List Arg} {r : Res} (n : Nat) (h : evBody E (orc E) n (77 : Nat) Tryz.f77 args = some r) : fo 77 args = some r := orc_body n rfl rfl Tryz.func77 h
@[simp] theorem kill_78 (r : Nat) : E.kill (78 : Nat) r = (lk [(0, [[2], [3]]), (1, [[], [8]]), (2, [[]]), (3, [[], [], [10, 11], [12], [13], [], [9], [14], [15]]), (4, [[], [16]]), (5, [[4], [5], [18], [19]]), (6, [[], [6], [21], [20, 22], [23]]), (7, [[], [7], [24, 25], [26]])] r).getD [] := rfl
@[simp] theorem live_78 (r : Nat) : E.live (78 : Nat) r = lk [(0, [0], [0]), (1, [0, 4], [0, 4, 8, 23]), (2, [0, 4, 5], [0, 4, 5, 8, 23, 26]), (3, [0, 4, 5, 6, 7], [0, 4, 5, 6, 7, 8, 9, 13, 14, 15, 23, 26]), (4, [0, 4, 5, 6, 7, 17], [0, 4, 5, 6, 7, 8, 9, 13, 14, 15, 17, 23, 26]), (5, [2, 3], [2, 3, 4, 5, 8, 18, 19, 23, 26]), (6, [0, 4, 5, 7], [0, 4, 5, 7, 8, 9, 13, 15, 23, 26]), (7, [0, 4, 5], [0, 4, 5, 8, 23, 26])] r := rfl
@[simp] theorem pairs_78 (r : Nat) : E.pairs (78 : Nat) r = (lk [] r).getD [] := rfl
@[simp] theorem mode_78 : E.mode (78 : Nat) = [] := rfl
@[simp] theorem keep_78 (d : Nat) : E.keep (78 : Nat) d = ([] : List Nat).contains d := rfl
@[simp] theorem take_78 (d : Nat) : E.take (78 : Nat) d = ([] : List Nat).contains d := rfl
theorem orc_78 {args : List Arg} {r : Res} (n : Nat) (h : evBody E (orc E) n (78 : Nat) Tryz.f78 args = some r) : fo 78 args = some r := orc_body n rfl rfl Tryz.func78 h
@[simp] theorem kill_79 (r : Nat) : E.kill (79 : Nat) r = (lk [(0, [[2], [3]]), (1, [[], [7]]), (2, [[], [9], [10], [], [8], [11], [12]]), (3, [[6], [13]]), (4, [[4], [0], [15], [16]])] r).getD [] := rfl
@[simp] theorem live_79 (r : Nat) : E.live (79 : Nat) r = lk [(0, [0], [0, 21, 25, 26]), (1, [0, 4], [0, 4, 7, 20, 21, 25, 26]), (2, [0, 4, 5, 6], [0, 4, 5, 6, 7, 8, 10, 11, 12, 20, 21, 25, 26]), (3, [0, 4, 5, 14], [0, 4, 5, 7, 8, 10, 11, 14, 20, 21, 25, 26]), (4, [2, 3], [0, 2, 3, 4, 7, 15, 16, 20, 21, 25, 26]), (5, [0, 4], [0, 4, 7, 20, 21, 25, 26])] r := rfl
@[simp] theorem pairs_79 (r : Nat) : E.pairs (79 : Nat) r = (lk [(5, [(2, 9), (3, 9), (9, 10)])] r).getD [] := rfl
@[simp] theorem mode_79 : E.mode (79 : Nat) = [] := rfl
@[simp] theorem keep_79 (d : Nat) : E.keep (79 : Nat) d = ([] : List Nat).contains d := rfl
@[simp] theorem take_79 (d : Nat) : E.take (79 : Nat) d = ([] : List Nat).contains d := rfl
theorem orc_79 {args : List Arg} {r : Res} (n : Nat) (h : evBody E (orc E) n (79 : Nat) Tryz.f79 args = some r) : fo 79 args = some r := orc_body n rfl rfl Tryz.func79 h
@[simp] theorem kill_80 (r : Nat) : E.kill (80 : Nat) r = (lk [(0, [[4]]), (1, [[], [], [7], [6, 8], [9]]), (2, [[], [10]]), (3, [[]]), (4, [[]]), (5, [[], [], [13], [12, 14]]), (7, [[], [], [18, 19], [20], [], [21, 22], [23]]), (8, [[], [24]]), (9, [[]]), (6, [[], [16], [17]]), (10, [[1], [26]])] r).getD [] := rfl
@[simp] theorem live_80 (r : Nat) : E.live (80 : Nat) r = lk [(0, [0, 1], [0, 1, 9, 23]), (1, [0, 1], [0, 1, 9, 23]), (2, [0, 1, 11], [0, 1, 9, 11, 23]), (3, [4], [1, 4, 9, 23, 26]), (4, [0, 1, 5], [0, 1, 5, 9, 17, 23]), (5, [0, 1, 5, 15], [0, 1, 5, 9, 15, 17, 23]), (6, [0, 1, 5], [0, 1, 5, 9, 17, 23]), (7, [0, 1, 5], [0, 1, 5, 9, 17, 23]), (8, [0, 1, 5, 25], [0, 1, 5, 9, 17, 23, 25]), (9, [4], [1, 4, 9, 23, 26]), (10, [4], [1, 4, 9, 23, 26])] r := rfl
@[simp] theorem pairs_80 (r : Nat) : E.pairs (80 : Nat) r = (lk [] r).getD [] := rfl
@[simp] theorem mode_80 : E.mode (80 : Nat) = [] := rfl
@[simp] theorem keep_80 (d : Nat) : E.keep (80 : Nat) d = ([] : List Nat).contains d := rfl
@[simp] theorem take_80 (d : Nat) : E.take (80 : Nat) d = ([] : List Nat).contains d := rfl
theorem orc_80 {args : List Arg} {r : Res} (n : Nat) (h : evBody E (orc E) n (80 : Nat) Tryz.f80 args = some r) : fo 80 args = some r := orc_body n rfl rfl Tryz.func80 h
@[simp] theorem kill_81 (r : Nat) : E.kill (81 : Nat) r = (lk [(0, [[0], [4]]), (1, [[], [5], [], [6, 7], [8]]), (2, [[], [9]]), (3, [[]]), (4, [[], [11], [], [12, 13], [14]]), (5, [[], [15]]), (6, [[]]), (7, [[2], [17], [], [18, 19], [20]]), (8, [[], [21]]), (9, [[]]), (10, [[1], [23]])] r).getD [] := rfl
@[simp] theorem live_81 (r : Nat) : E.live (81 : Nat) r = lk [(0, [1, 2], [0, 1, 2, 8, 14, 20]), (1, [1, 2], [0, 1, 2, 8, 14, 20]), (2, [1, 2, 10], [0, 1, 2, 8, 10, 14, 20]), (3, [4], [1, 4, 8, 14, 20, 23]), (4, [1, 2], [0, 1, 2, 8, 14, 20]), (5, [1, 2, 16], [0, 1, 2, 8, 14, 16, 20]), (6, [4], [1, 4, 8, 14, 20, 23]), (7, [1], [1, 8, 14, 20]), (8, [1, 22], [1, 8, 14, 20, 22]), (9, [4], [1, 4, 8, 14, 20, 23]), (10, [4], [1, 4, 8, 14, 20, 23])] r := rfl
@[simp] theorem pairs_81 (r : Nat) : E.pairs (81 : Nat) r = (lk [] r).getD [] := rfl
@[simp] theorem mode_81 : E.mode (81 : Nat) = [] := rfl
@[simp] theorem keep_81 (d : Nat) : E.keep (81 : Nat) d = ([] : List Nat).contains d := rfl
@[simp] theorem take_81 (d : Nat) : E.take (81 : Nat) d = ([] : List Nat).contains d := rfl
theorem orc_81 {args : List Arg} {r : Res} (n : Nat) (h : evBody E (orc E) n (81 : Nat) Tryz.f81 args = some r) : fo 81 args = some r := orc_body n rfl rfl Tryz.func81 h
@[simp] theorem kill_82 (r : Nat) : E.kill (82 : Nat) r = (lk [(0, [[2]]), (1, [[], [9], [10], [11], [], [13], [14], [12, 15]]), (2, [[]]), (3, [[]]), (4, [[], [], [18], [17, 19]]), (6, [[], [], [23, 24], [25]]), (7, [[], [26]]), (8, [[4], [28]]), (5, [[], [21], [22]]), (9, [[], [29], [30]]), (10, [[], [31]]), (11, [[5], [33]]), (12, [[]]), (13, [[], [], [35], [34, 36]]), (15, [[], [], [40, 41], [42], [43], [44], [45]]), (16, [[], [46]]), (17, [[7], [48]]), (18, [[], [], [49, 50], [51], [52], [53], [54]]), (19, [[], [55]]), (20, [[8], [57]]), (14, [[], [38], [39]]), (21, [[]])] r).getD [] := rfl
@[simp] theorem live_82 (r : Nat) : E.live (82 : Nat) r = lk [(0, [0], [0]), (1, [0, 16], [0, 11, 12, 15, 16]), (2, [2], [2, 4, 5, 7, 8, 25, 28, 30, 33, 45, 48, 54, 57]), (3, [0, 3], [0, 3, 22]), (4, [0, 3, 20], [0, 3, 20, 22]), (5, [0, 3], [0, 3, 22]), (6, [0, 3, 4], [0, 3, 4, 22, 25]), (7, [0, 3, 4, 27], [0, 3, 4, 22, 25, 27]), (8, [2], [2, 4, 5, 7, 8, 25, 28, 30, 33, 45, 48, 54, 57]), (9, [0, 5], [0, 5, 30]), (10, [0, 5, 32], [0, 5, 30, 32]), (11, [2], [2, 4, 5, 7, 8, 25, 28, 30, 33, 45, 48, 54, 57]), (12, [0, 6], [0, 6, 39]), (13, [0, 6, 37], [0, 6, 37, 39]), (14, [0, 6], [0, 6, 39]), (15, [0, 6, 7], [0, 6, 7, 39, 45]), (16, [0, 6, 7, 47], [0, 6, 7, 39, 45, 47]), (17, [2], [2, 4, 5, 7, 8, 25, 28, 30, 33, 45, 48, 54, 57]), (18, [0, 6, 8], [0, 6, 8, 39, 54]), (19, [0, 6, 8, 56], [0, 6, 8, 39, 54, 56]), (20, [2], [2, 4, 5, 7, 8, 25, 28, 30, 33, 45, 48, 54, 57]), (21, [2], [2, 4, 5, 7, 8, 25, 28, 30, 33, 45, 48, 54, 57])] r := rfl
@[simp] theorem pairs_82 (r : Nat) : E.pairs (82 : Nat) r = (lk [] r).getD [] := rfl
@[simp] theorem mode_82 : E.mode (82 : Nat) = [] := rfl
@[simp] theorem keep_82 (d : Nat) : E.keep (82 : Nat) d = ([] : List Nat).contains d := rfl
@[simp] theorem take_82 (d : Nat) : E.take (82 : Nat) d = ([] : List Nat).contains d := rfl
theorem orc_82 {args : List Arg} {r : Res} (n : Nat) (h : evBody E (orc E) n (82 : Nat) Tryz.f82 args = some r) : fo 82 args = some r := orc_body n rfl rfl Tryz.func82 h
@[simp] theorem kill_83 (r : Nat) : E.kill (83 : Nat) r = (lk [(0, [[2]]), (1, [[], [4], [5]]), (2, [[]]), (3, [[]]), (4, [[], [], [8], [7, 9]]), (6, [[], [], [13, 14], [15], [16], [17]]), (7, [[]]), (5, [[], [11], [12]]), (8, [[]])] r).getD [] := rfl
@[simp] theorem live_83 (r : Nat) : E.live (83 : Nat) r = lk [(0, [0], [0]), (1, [0, 6], [0, 6]), (2, [2], [2]), (3, [0, 3], [0, 3, 12]), (4, [0, 3, 10], [0, 3, 10, 12]), (5, [0, 3], [0, 3, 12]), (6, [0, 3, 18], [0, 3, 12, 18]), (7, [2], [2]), (8, [2], [2])] r := rfl
@[simp] theorem pairs_83 (r : Nat) : E.pairs (83 : Nat) r = (lk [] r).getD [] := rfl
@[simp] theorem mode_83 : E.mode (83 : Nat) = [] := rfl
@[simp] theorem keep_83 (d : Nat) : E.keep (83 : Nat) d = ([] : List Nat).contains d := rfl
@[simp] theorem take_83 (d : Nat) : E.take (83 : Nat) d = ([] : List Nat).contains d := rfl
theorem orc_83 {args : List Arg} {r : Res} (n : Nat) (h : evBody E (orc E) n (83 : Nat) Tryz.f83 args = some r) : fo 83 args = some r := orc_body n rfl rfl Tryz.func83 h
@[simp] theorem kill_84 (r : Nat) : E.kill (84 : Nat) r = (lk [(0, [[6]]), (1, [[], [], [12, 13], [14]]), (2, [[]]), (3, [[]]), (4, [[]]), (5, [[], [], [16], [15, 17]]), (8, [[], [32]]), (9, [[], [33], [34]]), (10, [[30], [36]]), (11, [[], [37], [38]]), (6, [[], [19], [20]]), (12, [[], [39], [40], [41], [], [42, 43], [44], [45]]), (13, [[8], [9], [47, 48], [49], [50], [1], [52], [53], [54], [2], [55, 56], [57], [58], [51, 59], [60]]), (14, [[], [61], [62], [63], [], [64, 65], [66], [67], [68]]), (15, [[0], [2], [69, 70], [71], [72]]), (16, [[], [75]]), (17, [[], [76]]), (18, [[8], [77], [78], [9], [80], [79, 81], [82], [11], [83, 84], [85]]), (19, [[], [87]]), (20, [[], [88], [89], [8], [9], [91, 92], [7], [94], [93, 95], [90, 96], [97], [11], [98, 99], [100]]), (21, [[], [102]]), (23, [[], [124]]), (24, [[11], [125], [126]]), (25, [[73], [128]]), (26, [[]]), (27, [[11], [129]])] r).getD [] := rfl
@[simp] theorem live_84 (r : Nat) : E.live (84 : Nat) r = lk [(0, [0, 1, 2], [0, 1, 2]), (1, [0, 1, 2, 7], [0, 1, 2, 7, 14]), (2, [0, 1, 2, 7, 8], [0, 1, 2, 7, 8, 14, 34]), (3, [0, 1, 2, 7, 8, 9], [0, 1, 2, 7, 8, 9, 14, 34, 38]), (4, [0, 1, 2, 7, 8, 9, 10], [0, 1, 2, 7, 8, 9, 10, 14, 20, 34, 38]), (5, [0, 1, 2, 7, 8, 9, 10, 18], [0, 1, 2, 7, 8, 9, 10, 14, 18, 20, 34, 38]), (6, [0, 1, 2, 7, 8, 9, 10], [0, 1, 2, 7, 8, 9, 10, 14, 20, 34, 38]), (7, [0, 1, 2, 7, 8, 9, 10, 30], [0, 1, 2, 7, 8, 9, 10, 14, 20, 21, 22, 23, 24, 25, 26, 27, 28, 29, 30, 34, 38]), (8, [0, 1, 2, 7, 8, 9, 10, 30, 31], [0, 1, 2, 7, 8, 9, 10, 14, 20, 21, 22, 23, 24, 25, 26, 27, 28, 29, 30, 31, 32, 34, 38]), (9, [0, 1, 2, 7, 8, 9, 10], [0, 1, 2, 7, 8, 9, 10, 14, 20, 34, 38]), (10, [0, 1, 2, 7, 8, 9, 10, 35], [0, 1, 2, 7, 8, 9, 10, 14, 20, 34, 35, 36, 38]), (11, [0, 1, 2, 7, 8, 9, 10], [0, 1, 2, 7, 8, 9, 10, 14, 20, 34, 38]), (12, [0, 1, 2, 7, 8, 9, 46], [0, 1, 2, 7, 8, 9, 14, 34, 38, 46]), (13, [6], [6, 11, 50, 51, 59, 60, 68, 78, 79, 81, 82, 83, 84, 85, 89, 90, 96, 97, 98, 99, 100, 104, 105, 107, 108, 109, 121, 122, 126, 129]), (14, [0, 1, 2, 7, 8, 9, 11], [0, 1, 2, 7, 8, 9, 11, 14, 34, 38, 68]), (15, [1, 7, 8, 9, 11, 73], [0, 1, 2, 7, 8, 9, 11, 14, 34, 38, 68, 69, 70, 71, 72, 73]), (16, [1, 7, 8, 9, 11, 73, 74], [0, 1, 2, 7, 8, 9, 11, 14, 34, 38, 68, 69, 70, 71, 72, 73, 74, 75, 76]), (17, [1, 7, 8, 9, 11, 73, 74], [0, 1, 2, 7, 8, 9, 11, 14, 34, 38, 68, 69, 70, 71, 72, 73, 74, 75, 76]), (18, [6], [6, 11, 50, 51, 59, 60, 68, 78, 79, 81, 82, 83, 84, 85, 89, 90, 96, 97, 98, 99, 100, 104, 105, 107, 108, 109, 121, 122, 126, 129]), (19, [1, 7, 8, 9, 11, 73, 86], [0, 1, 2, 7, 8, 9, 11, 14, 34, 38, 68, 69, 70, 71, 72, 73, 86, 87]), (20, [6], [6, 11, 50, 51, 59, 60, 68, 78, 79, 81, 82, 83, 84, 85, 89, 90, 96, 97, 98, 99, 100, 104, 105, 107, 108, 109, 121, 122, 126, 129]), (21, [1, 7, 8, 9, 11, 73, 101], [0, 1, 2, 7, 8, 9, 11, 14, 34, 38, 68, 69, 70, 71, 72, 73, 101, 102]), (22, [6], [6, 11, 50, 51, 59, 60, 68, 78, 79, 81, 82, 83, 84, 85, 89, 90, 96, 97, 98, 99, 100, 104, 105, 107, 108, 109, 121, 122, 126, 129]), (23, [11, 73, 123], [0, 2, 11, 68, 69, 70, 71, 72, 73, 123, 124]), (24, [6], [6, 11, 50, 51, 59, 60, 68, 78, 79, 81, 82, 83, 84, 85, 89, 90, 96, 97, 98, 99, 100, 104, 105, 107, 108, 109, 121, 122, 126, 129]), (25, [11, 127], [11, 68, 127, 128]), (26, [6], [6, 11, 50, 51, 59, 60, 68, 78, 79, 81, 82, 83, 84, 85, 89, 90, 96, 97, 98, 99, 100, 104, 105, 107, 108, 109, 121, 122, 126, 129]), (27, [6], [6, 11, 50, 51, 59, 60, 68, 78, 79, 81, 82, 83, 84, 85, 89, 90, 96, 97, 98, 99, 100, 104, 105, 107, 108, 109, 121, 122, 126, 129])] r := rfl
@[simp] theorem pairs_84 (r : Nat) : E.pairs (84 : Nat) r = (lk [] r).getD [] := rfl
@[simp] theorem mode_84 : E.mode (84 : Nat) = [] := rfl
@[simp] theorem keep_84 (d : Nat) : E.keep (84 : Nat) d = ([] : List Nat).contains d := rfl
@[simp] theorem take_84 (d : Nat) : E.take (84 : Nat) d = ([] : List Nat).contains d := rfl
theorem orc_84 {args : List Arg} {r : Res} (n : Nat) (h : evBody E (orc E) n (84 : Nat) Tryz.f84 args = some r) : fo 84 args = some r := orc_body n rfl rfl Tryz.func84 h
@[simp] theorem kill_85 (r : Nat) : E.kill (85 : Nat) r = (lk [(0, [[2]]), (1, [[], [5], [6], [7]]), (2, [[]]), (3, [[], [], [9], [8, 10]]), (5, [[], [], [], [], [16, 17], [18], [19], [14, 15], [20, 21]]), (4, [[], [12], [13]]), (6, [[3], [22]])] r).getD [] := rfl
@[simp] theorem live_85 (r : Nat) : E.live (85 : Nat) r = lk [(0, [0], [0]), (1, [0, 3], [0, 3, 7, 20]), (2, [0, 3, 4], [0, 3, 4, 7, 13, 20]), (3, [0, 3, 4, 11], [0, 3, 4, 7, 11, 13, 20]), (4, [0, 3, 4], [0, 3, 4, 7, 13, 20]), (5, [0, 3, 4], [0, 3, 4, 7, 13, 20]), (6, [2], [2, 3, 7, 20, 22])] r := rfl
@[simp] theorem pairs_85 (r : Nat) : E.pairs (85 : Nat) r = (lk [] r).getD [] := rfl
@[simp] theorem mode_85 : E.mode (85 : Nat) = [] := rfl
@[simp] theorem keep_85 (d : Nat) : E.keep (85 : Nat) d = ([] : List Nat).contains d := rfl
@[simp] theorem take_85 (d : Nat) : E.take (85 : Nat) d = ([] : List Nat).contains d := rfl
theorem orc_85 {args : List Arg} {r : Res} (n : Nat) (h : evBody E (orc E) n (85 : Nat) Tryz.f85 args = some r) : fo 85 args = some r := orc_body n rfl rfl Tryz.func85 h
@[simp] theorem kill_86 (r : Nat) : E.kill (86 : Nat) r = (lk [(0, [[0], []]), (1, [[]]), (2, [[], [4], [], [5, 6]]), (3, [[], [7], [], [8, 9]]), (4, [[], [10], [11], [], [12, 13]]), (5, [[], [14], [15], [], [16, 17]]), (6, [[1], [18], [19], [], [20, 21]]), (7, [[3], [22]])] r).getD [] := rfl
@[simp] theorem live_86 (r : Nat) : E.live (86 : Nat) r = lk [(0, [1, 2], [0, 1, 2, 3, 4, 5, 7, 8, 12, 16, 20, 22]), (1, [1, 2, 3], [0, 1, 2, 3, 4, 5, 7, 8, 12, 16, 20, 22]), (2, [1, 2, 3], [0, 1, 2, 3, 4, 5, 7, 8, 12, 16, 20, 22]), (3, [1, 2, 3], [0, 1, 2, 3, 4, 5, 7, 8, 12, 16, 20, 22]), (4, [1, 2, 3], [0, 1, 2, 3, 4, 5, 7, 8, 12, 16, 20, 22]), (5, [1, 2, 3], [0, 1, 2, 3, 4, 5, 7, 8, 12, 16, 20, 22]), (6, [2, 3], [0, 1, 2, 3, 4, 5, 7, 8, 12, 16, 20, 22]), (7, [2], [0, 1, 2, 3, 4, 5, 7, 8, 12, 16, 20, 22])] r := rfl
@[simp] theorem pairs_86 (r : Nat) : E.pairs (86 : Nat) r = (lk [] r).getD [] := rfl
@[simp] theorem mode_86 : E.mode (86 : Nat) = [] := rfl
@[simp] theorem keep_86 (d : Nat) : E.keep (86 : Nat) d = ([] : List Nat).contains d := rfl
@[simp] theorem take_86 (d : Nat) : E.take (86 : Nat) d = ([] : List Nat).contains d := rfl
theorem orc_86 {args : List Arg} {r : Res} (n : Nat) (h : evBody E (orc E) n (86 : Nat) Tryz.f86 args = some r) : fo 86 args = some r := orc_body n rfl rfl Tryz.func86 h
@[simp] theorem kill_87 (r : Nat) : E.kill (87 : Nat) r = (lk [(0, [[2]]), (1, [[], [12], [13], [14]]), (2, [[]]), (3, [[], [16], [17]]), (4, [[], [], []]), (5, [[]]), (6, [[], [22], [999999], [23]]), (7, [[5], [], [24, 25], [26]]), (8, [[], [27]]), (9, [[6], [29]]), (10, [[], [30]]), (11, [[], [31], []]), (12, [[]]), (13, [[], [35]]), (14, [[], [7], [36, 37], [38]]), (15, [[], [39]]), (16, [[8], [41]]), (17, [[], [42]]), (18, [[0], [], []]), (19, [[]]), (20, [[], [47], [999999], [48]]), (22, [[], [57]]), (23, [[11], [59]]), (24, [[], [60]]), (25, [[]])] r).getD [] := rfl
@[simp] theorem live_87 (r : Nat) : E.live (87 : Nat) r = lk [(0, [0], [0, 18, 20, 22, 23, 30, 43, 45, 47, 48, 60]), (1, [0, 15], [0, 15, 18, 20, 22, 23, 30, 43, 45, 47, 48, 60]), (2, [2], [2, 6, 8, 11, 26, 29, 38, 41, 56, 59]), (3, [0, 3], [0, 3, 16, 17, 18, 20, 22, 23, 30, 43, 45, 47, 48, 60]), (4, [0, 3, 18, 19, 20], [0, 3, 16, 17, 18, 19, 20, 22, 23, 30, 43, 45, 47, 48, 60]), (5, [0, 3, 18, 19, 20, 21], [0, 3, 16, 17, 18, 19, 20, 21, 22, 23, 30, 43, 45, 47, 48, 60]), (6, [0, 3, 5, 18, 19, 20], [0, 3, 5, 16, 17, 18, 19, 20, 22, 23, 30, 43, 45, 47, 48, 60]), (7, [0, 3, 6, 18, 19, 20], [0, 3, 6, 16, 17, 18, 19, 20, 22, 23, 26, 30, 43, 45, 47, 48, 60]), (8, [0, 3, 6, 18, 19, 20, 28], [0, 3, 6, 16, 17, 18, 19, 20, 22, 23, 26, 28, 30, 43, 45, 47, 48, 60]), (9, [2], [2, 6, 8, 11, 26, 29, 38, 41, 56, 59]), (10, [0, 3, 18, 19, 20], [0, 3, 16, 17, 18, 19, 20, 22, 23, 30, 43, 45, 47, 48, 60]), (11, [0, 32, 33], [0, 18, 20, 22, 23, 30, 32, 33, 42, 43, 45, 47, 48, 60]), (12, [0, 32, 33, 34], [0, 18, 20, 22, 23, 30, 32, 33, 34, 42, 43, 45, 47, 48, 60]), (13, [0, 7, 32, 33], [0, 7, 18, 20, 22, 23, 30, 32, 33, 35, 42, 43, 45, 47, 48, 60]), (14, [0, 8, 32, 33], [0, 8, 18, 20, 22, 23, 30, 32, 33, 38, 42, 43, 45, 47, 48, 60]), (15, [0, 8, 32, 33, 40], [0, 8, 18, 20, 22, 23, 30, 32, 33, 38, 40, 42, 43, 45, 47, 48, 60]), (16, [2], [2, 6, 8, 11, 26, 29, 38, 41, 56, 59]), (17, [0, 32, 33], [0, 18, 20, 22, 23, 30, 32, 33, 42, 43, 45, 47, 48, 60]), (18, [43, 44, 45], [0, 18, 20, 22, 23, 30, 43, 44, 45, 47, 48, 60]), (19, [43, 44, 45, 46], [0, 18, 20, 22, 23, 30, 43, 44, 45, 46, 47, 48, 60]), (20, [10, 43, 44, 45], [0, 10, 18, 20, 22, 23, 30, 43, 44, 45, 47, 48, 60]), (21, [11, 43, 44, 45], [0, 11, 18, 20, 22, 23, 30, 43, 44, 45, 47, 48, 56, 60]), (22, [11, 43, 44, 45, 58], [0, 11, 18, 20, 22, 23, 30, 43, 44, 45, 47, 48, 56, 58, 60]), (23, [2], [2, 6, 8, 11, 26, 29, 38, 41, 56, 59]), (24, [43, 44, 45], [0, 18, 20, 22, 23, 30, 43, 44, 45, 47, 48, 60]), (25, [2], [2, 6, 8, 11, 26, 29, 38, 41, 56, 59])] r := rfl
@[simp] theorem pairs_87 (r : Nat) : E.pairs (87 : Nat) r = (lk [(21, [(2, 4)])] r).getD [] := rfl
@[simp] theorem mode_87 : E.mode (87 : Nat) = [] := rfl
@[simp] theorem keep_87 (d : Nat) : E.keep (87 : Nat) d = ([] : List Nat).contains d := rfl
@[simp] theorem take_87 (d : Nat) : E.take (87 : Nat) d = ([] : List Nat).contains d := rfl
theorem orc_87 {args : List Arg} {r : Res} (n : Nat) (h : evBody E (orc E) n (87 : Nat) Tryz.f87 args = some r) : fo 87 args = some r := orc_body n rfl rfl Tryz.func87 h
@[simp] theorem kill_88 (r : Nat) : E.kill (88 : Nat) r = (lk [(0, [[2]]), (1, [[], [4], [5]]), (2, [[0], [6], [7], [8], [3], [10], [9, 11], [12], [13]])] r).getD [] := rfl
@[simp] theorem live_88 (r : Nat) : E.live (88 : Nat) r = lk [(0, [0], [0]), (1, [0, 3], [0, 3, 5]), (2, [2], [2, 13])] r := rfl
@[simp] theorem pairs_88 (r : Nat) : E.pairs (88 : Nat) r = (lk [] r).getD [] := rfl
@[simp] theorem mode_88 : E.mode (88 : Nat) = [] := rfl
@[simp] theorem keep_88 (d : Nat) : E.keep (88 : Nat) d = ([] : List Nat).contains d := rfl
@[simp] theorem take_88 (d : Nat) : E.take (88 : Nat) d = ([] : List Nat).contains d := rfl
theorem orc_88 {args : List Arg} {r : Res} (n : Nat) (h : evBody E (orc E) n (88 : Nat) Tryz.f88 args = some r) : fo 88 args = some r := orc_body n rfl rfl Tryz.func88 h
@[simp] theorem kill_89 (r : Nat) : E.kill (89 : Nat) r = (lk [(0, [[1], [4]]), (1, [[0], [3], [5, 6], [7], [8]])] r).getD [] := rfl
@[simp] theorem live_89 (r : Nat) : E.live (89 : Nat) r = lk [(0, [0, 3], [0, 1, 3]), (1, [4], [4, 8])] r := rfl
@[simp] theorem pairs_89 (r : Nat) : E.pairs (89 : Nat) r = (lk [] r).getD [] := rfl
@[simp] theorem mode_89 : E.mode (89 : Nat) = [] := rfl
@[simp] theorem keep_89 (d : Nat) : E.keep (89 : Nat) d = ([] : List Nat).contains d := rfl
@[simp] theorem take_89 (d : Nat) : E.take (89 : Nat) d = ([] : List Nat).contains d := rfl
theorem orc_89 {args : List Arg} {r : Res} (n : Nat) (h : evBody E (orc E) n (89 : Nat) Tryz.f89 args = some r) : fo 89 args = some r := orc_body n rfl rfl Tryz.func89 h
@[simp] theorem kill_90 (r : Nat) : E.kill (90 : Nat) r = (lk [(0, [[2]]), (1, [[], [4], [5], [6], [7], [8]]), (2, [[], [10], [11], [12], [13], [14], [15], [0], [17], [18], [19], [20], [21], [16, 22], [23]]), (3, [[], [24], [25], [26], [27], []]), (4, [[]]), (5, [[], [31]]), (6, [[], [3], [32, 33], [34]]), (7, [[]]), (8, [[], [36]]), (9, [[0], [37], [38], [39], [40], [41], [42], [43], [44]])] r).getD [] := rfl
@[simp] theorem live_90 (r : Nat) : E.live (90 : Nat) r = lk [(0, [0], [0]), (1, [0, 9], [0, 9]), (2, [2], [2, 15, 16, 22, 23, 44]), (3, [0, 28, 29], [0, 28, 29, 36]), (4, [0, 28, 29, 30], [0, 28, 29, 30, 36]), (5, [0, 3, 28, 29], [0, 3, 28, 29, 31, 36]), (6, [0, 28, 29, 35], [0, 28, 29, 35, 36]), (7, [2], [2, 15, 16, 22, 23, 44]), (8, [0, 28, 29], [0, 28, 29, 36]), (9, [2], [2, 15, 16, 22, 23, 44])] r := rfl
@[simp] theorem pairs_90 (r : Nat) : E.pairs (90 : Nat) r = (lk [] r).getD [] := rfl
@[simp] theorem mode_90 : E.mode (90 : Nat) = [] := rfl
@[simp] theorem keep_90 (d : Nat) : E.keep (90 : Nat) d = ([] : List Nat).contains d := rfl
@[simp] theorem take_90 (d : Nat) : E.take (90 : Nat) d = ([] : List Nat).contains d := rfl
theorem orc_90 {args : List Arg} {r : Res} (n : Nat) (h : evBody E (orc E) n (90 : Nat) Tryz.f90 args = some r) : fo 90 args = some r := orc_body n rfl rfl Tryz.func90 h
@[simp] theorem kill_91 (r : Nat) : E.kill (91 : Nat) r = (lk [(0, [[2]]), (1, [[], [0], [3, 4], [5]])] r).getD [] := rfl
@[simp] theorem live_91 (r : Nat) : E.live (91 : Nat) r = lk [(0, [0], [0]), (1, [2], [2, 5])] r := rfl
@[simp] theorem pairs_91 (r : Nat) : E.pairs (91 : Nat) r = (lk [] r).getD [] := rfl
@[simp] theorem mode_91 : E.mode (91 : Nat) = [] := rfl
@[simp] theorem keep_91 (d : Nat) : E.keep (91 : Nat) d = ([] : List Nat).contains d := rfl
@[simp] theorem take_91 (d : Nat) : E.take (91 : Nat) d = ([] : List Nat).contains d := rfl
theorem orc_91 {args : List Arg} {r : Res} (n : Nat) (h : evBody E (orc E) n (91 : Nat) Tryz.f91 args = some r) : fo 91 args = some r := orc_body n rfl rfl Tryz.func91 h
@[simp] theorem kill_92 (r : Nat) : E.kill (92 : Nat) r = (lk [(0, [[4]]), (1, [[], [6], [], [8], [7, 9]]), (2, [[]]), (3, [[]]), (4, [[], [], [12], [11, 13]]), (7, [[]]), (5, [[], [15], [16]]), (8, [[]])] r).getD [] := rfl
@[simp] theorem live_92 (r : Nat) : E.live (92 : Nat) r = lk [(0, [0, 1], [0, 1]), (1, [0, 1, 10], [0, 1, 10]), (2, [4], [4]), (3, [0, 1, 5], [0, 1, 5, 16]), (4, [0, 1, 5, 14], [0, 1, 5, 14, 16]), (5, [0, 1, 5], [0, 1, 5, 16]), (6, [0, 1, 5, 26], [0, 1, 5, 16, 26]), (7, [4], [4]), (8, [4], [4])] r := rfl
@[simp] theorem pairs_92 (r : Nat) : E.pairs (92 : Nat) r = (lk [] r).getD [] := rfl
@[simp] theorem mode_92 : E.mode (92 : Nat) = [] := rfl
@[simp] theorem keep_92 (d : Nat) : E.keep (92 : Nat) d = ([] : List Nat).contains d := rfl
@[simp] theorem take_92 (d : Nat) : E.take (92 : Nat) d = ([] : List Nat).contains d := rfl
theorem orc_92 {args : List Arg} {r : Res} (n : Nat) (h : evBody E (orc E) n (92 : Nat) Tryz.f92 args = some r) : fo 92 args = some r := orc_body n rfl rfl Tryz.func92 h
@[simp] theorem kill_93 (r : Nat) : E.kill (93 : Nat) r = (lk [(0, [[0], [1], [4]]), (1, [[], [5], [], [7], [6, 8]]), (2, [[]]), (3, [[], [10], [], [12], [11, 13]]), (4, [[]]), (5, [[], [15], [], [17], [16, 18], [19]]), (6, [[]]), (7, [[], [21], [], [23], [22, 24], [25]]), (8, [[]]), (9, [[2], [27], [3], [29], [28, 30], [31]]), (10, [[]]), (11, [[]])] r).getD [] := rfl
@[simp] theorem live_93 (r : Nat) : E.live (93 : Nat) r = lk [(0, [2, 3], [0, 1, 2, 3]), (1, [2, 3, 9], [0, 1, 2, 3, 9]), (2, [4], [4]), (3, [2, 3, 14], [0, 1, 2, 3, 14]), (4, [4], [4]), (5, [2, 3, 20], [0, 1, 2, 3, 20]), (6, [4], [4]), (7, [2, 3, 26], [0, 1, 2, 3, 26]), (8, [4], [4]), (9, [32], [32]), (10, [4], [4]), (11, [4], [4])] r := rfl
@[simp] theorem pairs_93 (r : Nat) : E.pairs (93 : Nat) r = (lk [] r).getD [] := rfl
@[simp] theorem mode_93 : E.mode (93 : Nat) = [] := rfl
@[simp] theorem keep_93 (d : Nat) : E.keep (93 : Nat) d = ([] : List Nat).contains d := rfl
@[simp] theorem take_93 (d : Nat) : E.take (93 : Nat) d = ([] : List Nat).contains d := rfl
theorem orc_93 {args : List Arg} {r : Res} (n : Nat) (h : evBody E (orc E) n (93 : Nat) Tryz.f93 args = some r) : fo 93 args = some r := orc_body n rfl rfl Tryz.func93 h
@[simp] theorem kill_94 (r : Nat) : E.kill (94 : Nat) r = (lk [(0, [[2], [3]]), (1, [[], [6], [7]]), (2, [[], []]), (3, [[], [9], [10], [11], [12], [13]]), (4, [[], [14], [15], [], [], [18], [17, 19], [16, 20]]), (5, [[], []]), (6, [[], [], [23], [22, 24], [25], [26]]), (8, [[], []]), (9, [[5], [4], [40], [41]])] r).getD [] := rfl
@[simp] theorem live_94 (r : Nat) : E.live (94 : Nat) r = lk [(0, [0], [0]), (1, [0, 8], [0, 8]), (2, [2, 3], [2, 3, 4, 5, 13, 26, 40, 41]), (3, [0, 4], [0, 4, 13]), (4, [0, 4, 21], [0, 4, 13, 15, 16, 20, 21]), (5, [2, 3], [2, 3, 4, 5, 13, 26, 40, 41]), (6, [0, 4, 5], [0, 4, 5, 13, 26]), (7, [4, 5, 39], [4, 5, 13, 26, 29, 30, 38, 39]), (8, [2, 3], [2, 3, 4, 5, 13, 26, 40, 41]), (9, [2, 3], [2, 3, 4, 5, 13, 26, 40, 41])] r := rfl
@[simp] theorem pairs_94 (r : Nat) : E.pairs (94 : Nat) r = (lk [(7, [(5, 9), (6, 9), (5, 10), (6, 10)])] r).getD [] := rfl
@[simp] theorem mode_94 : E.mode (94 : Nat) = [] := rfl
@[simp] theorem keep_94 (d : Nat) : E.keep (94 : Nat) d = ([] : List Nat).contains d := rfl
@[simp] theorem take_94 (d : Nat) : E.take (94 : Nat) d = ([] : List Nat).contains d := rfl
theorem orc_94 {args : List Arg} {r : Res} (n : Nat) (h : evBody E (orc E) n (94 : Nat) Tryz.f94 args = some r) : fo 94 args = some r := orc_body n rfl rfl Tryz.func94 h
@[simp] theorem kill_95 (r : Nat) : E.kill (95 : Nat) r = (lk [(0, [[2], [3]]), (1, [[], [5], [6], [7], [], [9], [], [11], [12], [13], [14], [15], [10, 16], [8, 17]]), (2, [[], []]), (3, [[], [], [20], [21], [22], [23], [19, 24], [25], [26]]), (4, [[], [], [28], [29], [30], [0], [4], [33], [32, 34], [31, 35], [27], [36]])] r).getD [] := rfl
@[simp] theorem live_95 (r : Nat) : E.live (95 : Nat) r = lk [(0, [0], [0]), (1, [0, 18], [0, 7, 8, 17, 18]), (2, [2, 3], [2, 3, 4, 26, 27, 30, 31, 35, 36]), (3, [0, 4], [0, 4, 26]), (4, [2, 3], [2, 3, 4, 26, 27, 30, 31, 35, 36])] r := rfl
@[simp] theorem pairs_95 (r : Nat) : E.pairs (95 : Nat) r = (lk [] r).getD [] := rfl
@[simp] theorem mode_95 : E.mode (95 : Nat) = [] := rfl
@[simp] theorem keep_95 (d : Nat) : E.keep (95 : Nat) d = ([] : List Nat).contains d := rfl
@[simp] theorem take_95 (d : Nat) : E.take (95 : Nat) d = ([] : List Nat).contains d := rfl
theorem orc_95 {args : List Arg} {r : Res} (n : Nat) (h : evBody E (orc E) n (95 : Nat) Tryz.f95 args = some r) : fo 95 args = some r := orc_body n rfl rfl Tryz.func95 h
@[simp] theorem kill_96 (r : Nat) : E.kill (96 : Nat) r = (lk [(0, [[0], [4]]), (1, [[], [], [6], [7], [5, 8], [9]]), (2, [[], [10]]), (3, [[]]), (4, [[], [12], [], [13, 14], [15]]), (5, [[], [16]]), (6, [[]]), (7, [[2], [18], [], [19, 20], [21]]), (8, [[], [22]]), (9, [[]]), (10, [[1], [24]])] r).getD [] := rfl
@[simp] theorem live_96 (r : Nat) : E.live (96 : Nat) r = lk [(0, [1, 2], [0, 1, 2, 9, 15, 21]), (1, [1, 2], [0, 1, 2, 9, 15, 21]), (2, [1, 2, 11], [0, 1, 2, 9, 11, 15, 21]), (3, [4], [1, 4, 9, 15, 21, 24]), (4, [1, 2], [0, 1, 2, 9, 15, 21]), (5, [1, 2, 17], [0, 1, 2, 9, 15, 17, 21]), (6, [4], [1, 4, 9, 15, 21, 24]), (7, [1], [1, 9, 15, 21]), (8, [1, 23], [1, 9, 15, 21, 23]), (9, [4], [1, 4, 9, 15, 21, 24]), (10, [4], [1, 4, 9, 15, 21, 24])] r := rfl
@[simp] theorem pairs_96 (r : Nat) : E.pairs (96 : Nat) r = (lk [] r).getD [] := rfl
@[simp] theorem mode_96 : E.mode (96 : Nat) = [] := rfl
@[simp] theorem keep_96 (d : Nat) : E.keep (96 : Nat) d = ([] : List Nat).contains d := rfl
@[simp] theorem take_96 (d : Nat) : E.take (96 : Nat) d = ([] : List Nat).contains d := rfl
theorem orc_96 {args : List Arg} {r : Res} (n : Nat) (h : evBody E (orc E) n (96 : Nat) Tryz.f96 args = some r) : fo 96 args = some r := orc_body n rfl rfl Tryz.func96 h
@[simp] theorem kill_97 (r : Nat) : E.kill (97 : Nat) r = (lk [(0, [[4]]), (1, [[], [0], [6], [5, 7], [8]]), (2, [[], [9]]), (3, [[]]), (4, [[1], [11]])] r).getD [] := rfl
@[simp] theorem live_97 (r : Nat) : E.live (97 : Nat) r = lk [(0, [0, 1], [0, 1, 8]), (1, [1], [1, 8]), (2, [1, 10], [1, 8, 10]), (3, [4], [1, 4, 8, 11]), (4, [4], [1, 4, 8, 11])] r := rfl
@[simp] theorem pairs_97 (r : Nat) : E.pairs (97 : Nat) r = (lk [] r).getD [] := rfl
@[simp] theorem mode_97 : E.mode (97 : Nat) = [] := rfl
@[simp] theorem keep_97 (d : Nat) : E.keep (97 : Nat) d = ([] : List Nat).contains d := rfl
@[simp] theorem take_97 (d : Nat) : E.take (97 : Nat) d = ([] : List Nat).contains d := rfl
theorem orc_97 {args : List Arg} {r : Res} (n : Nat) (h : evBody E (orc E) n (97 : Nat) Tryz.f97 args = some r) : fo 97 args = some r := orc_body n rfl rfl Tryz.func97 h
@[simp] theorem kill_98 (r : Nat) : E.kill (98 : Nat) r = (lk [(0, [[4]]), (1, [[], [], [7, 8], [9]]), (2, [[], [10], [11], [12], [13], [14], [15], [], [17], [18], [16, 19]]), (3, [[]]), (4, [[], [21], [22], [], [24], [25], [26], [27], [23, 28], [29], [], [31], [32], [], [34], [35], [36], [], [38], [37, 39], [40], [33, 41], [30, 42]]), (5, [[]]), (6, [[], [44], [45], [], [], [47, 48], [49], [46, 50]]), (7, [[]]), (8, [[0], [1], [52, 53], [54]]), (9, [[]]), (10, [[], [56], [57], [58], [59]]), (11, [[], [61], [62], [63], [64], [65]]), (12, [[], [66]]), (13, [[6], [68]]), (14, [[], [69], [70]]), (15, [[]]), (16, [[], [72], [73], [74], [75]]), (17, [[5], [77], [78], [79], [80], [81]]), (18, [[]])] r).getD [] := rfl
@[simp] theorem live_98 (r : Nat) : E.live (98 : Nat) r = lk [(0, [0, 1], [0, 1]), (1, [0, 1, 5], [0, 1, 5, 7, 8, 9]), (2, [0, 1, 5, 20], [0, 1, 5, 7, 8, 9, 15, 16, 19, 20]), (3, [4], [4, 6, 65, 68, 81]), (4, [0, 1, 5, 43], [0, 1, 5, 7, 8, 9, 22, 23, 28, 29, 30, 32, 33, 41, 42, 43]), (5, [4], [4, 6, 65, 68, 81]), (6, [0, 1, 5, 51], [0, 1, 5, 7, 8, 9, 45, 46, 50, 51]), (7, [4], [4, 6, 65, 68, 81]), (8, [5, 55], [0, 1, 5, 7, 8, 9, 55]), (9, [4], [4, 6, 65, 68, 81]), (10, [5, 60], [0, 1, 5, 7, 8, 9, 60]), (11, [5, 6], [0, 1, 5, 6, 7, 8, 9, 65]), (12, [5, 6, 67], [0, 1, 5, 6, 7, 8, 9, 65, 67]), (13, [4], [4, 6, 65, 68, 81]), (14, [5, 71], [0, 1, 5, 7, 8, 9, 71]), (15, [4], [4, 6, 65, 68, 81]), (16, [5, 76], [0, 1, 5, 7, 8, 9, 76]), (17, [4], [4, 6, 65, 68, 81]), (18, [4], [4, 6, 65, 68, 81])] r := rfl
@[simp] theorem pairs_98 (r : Nat) : E.pairs (98 : Nat) r = (lk [] r).getD [] := rfl
@[simp] theorem mode_98 : E.mode (98 : Nat) = [] := rfl
@[simp] theorem keep_98 (d : Nat) : E.keep (98 : Nat) d = ([] : List Nat).contains d := rfl
@[simp] theorem take_98 (d : Nat) : E.take (98 : Nat) d = ([] : List Nat).contains d := rfl
theorem orc_98 {args : List Arg} {r : Res} (n : Nat) (h : evBody E (orc E) n (98 : Nat) Tryz.f98 args = some r) : fo 98 args = some r := orc_body n rfl rfl Tryz.func98 h
@[simp] theorem kill_99 (r : Nat) : E.kill (99 : Nat) r = (lk [(0, [[2]]), (1, [[]]), (2, [[], [], [6], [5, 7]]), (5, [[]]), (7, [[]]), (8, [[], [], [33, 34], [35], [36], [37], [38]]), (9, [[], [], [40, 41], [42], [43], [44], [45]]), (10, [[], [46]]), (11, [[4], [48]]), (3, [[], [9], [10]]), (12, [[]])] r).getD [] := rfl
@[simp] theorem live_99 (r : Nat) : E.live (99 : Nat) r = lk [(0, [0], [0]), (1, [0, 3], [0, 3, 10]), (2, [0, 3, 8], [0, 3, 8, 10]), (3, [0, 3], [0, 3, 10]), (4, [0, 3, 21], [0, 3, 10, 21]), (5, [2], [2, 4, 45, 48]), (6, [0, 3, 32], [0, 3, 10, 32]), (7, [2], [2, 4, 45, 48]), (8, [0, 3, 39], [0, 3, 10, 39]), (9, [0, 3, 4], [0, 3, 4, 10, 45]), (10, [0, 3, 4, 47], [0, 3, 4, 10, 45, 47]), (11, [2], [2, 4, 45, 48]), (12, [2], [2, 4, 45, 48])] r := rfl
@[simp] theorem pairs_99 (r : Nat) : E.pairs (99 : Nat) r = (lk [(4, [(2, 7), (4, 7)]), (6, [(2, 5), (2, 7)])] r).getD [] := rfl
@[simp] theorem mode_99 : E.mode (99 : Nat) = [] := rfl
@[simp] theorem keep_99 (d : Nat) : E.keep (99 : Nat) d = ([] : List Nat).contains d := rfl
@[simp] theorem take_99 (d : Nat) : E.take (99 : Nat) d = ([] : List Nat).contains d := rfl
theorem orc_99 {args : List Arg} {r : Res} (n : Nat) (h : evBody E (orc E) n (99 : Nat) Tryz.f99 args = some r) : fo 99 args = some r := orc_body n rfl rfl Tryz.func99 h
@[simp] theorem kill_100 (r : Nat) : E.kill (100 : Nat) r = (lk [(0, [[4]]), (1, [[], [7], [8]]), (2, [[]]), (3, [[0], [11], [12], [], [10], [13], [14]]), (4, [[], [15]]), (5, [[6], [17]]), (6, [[5], [1], [18, 19]]), (7, [[]]), (8, [[]])] r).getD [] := rfl
@[simp] theorem live_100 (r : Nat) : E.live (100 : Nat) r = lk [(0, [0, 1], [0, 1]), (1, [0, 1, 9], [0, 1, 9]), (2, [4], [4, 6, 10, 12, 14, 17]), (3, [1, 5, 6], [1, 5, 6, 10, 12, 13, 14]), (4, [1, 5, 6, 16], [1, 5, 6, 10, 12, 13, 14, 16]), (5, [4], [4, 6, 10, 12, 14, 17]), (6, [20], [20]), (7, [4], [4, 6, 10, 12, 14, 17]), (8, [4], [4, 6, 10, 12, 14, 17])] r := rfl
@[simp] theorem pairs_100 (r : Nat) : E.pairs (100 : Nat) r = (lk [] r).getD [] := rfl
@[simp] theorem mode_100 : E.mode (100 : Nat) = [] := rfl
@[simp] theorem keep_100 (d : Nat) : E.keep (100 : Nat) d = ([] : List Nat).contains d := rfl
@[simp] theorem take_100 (d : Nat) : E.take (100 : Nat) d = ([] : List Nat).contains d := rfl
theorem orc_100 {args : List Arg} {r : Res} (n : Nat) (h : evBody E (orc E) n (100 : Nat) Tryz.f100 args = some r) : fo 100 args = some r := orc_body n rfl rfl Tryz.func100 h
@[simp] theorem kill_101 (r : Nat) : E.kill (101 : Nat) r = (lk [(0, [[4]]), (1, [[], [7]]), (2, [[]]), (3, [[], [], [9], [8, 10]]), (5, [[], [], [14, 15], [16], [17], [], [18, 19]]), (6, [[], [], [22], [21, 23], [24]]), (4, [[], [12], [13]]), (7, [[5], [25]])] r).getD [] := rfl
@[simp] theorem live_101 (r : Nat) : E.live (101 : Nat) r = lk [(0, [0, 1], [0, 1]), (1, [0, 1, 5], [0, 1, 5, 7, 24]), (2, [0, 1, 5, 6], [0, 1, 5, 6, 7, 13, 24]), (3, [0, 1, 5, 6, 11], [0, 1, 5, 6, 7, 11, 13, 24]), (4, [0, 1, 5, 6], [0, 1, 5, 6, 7, 13, 24]), (5, [0, 1, 5, 6, 20], [0, 1, 5, 6, 7, 13, 20, 24]), (6, [0, 1, 5, 6], [0, 1, 5, 6, 7, 13, 24]), (7, [4], [4, 5, 7, 24, 25])] r := rfl
@[simp] theorem pairs_101 (r : Nat) : E.pairs (101 : Nat) r = (lk [] r).getD [] := rfl
@[simp] theorem mode_101 : E.mode (101 : Nat) = [] := rfl
@[simp] theorem keep_101 (d : Nat) : E.keep (101 : Nat) d = ([] : List Nat).contains d := rfl
@[simp] theorem take_101 (d : Nat) : E.take (101 : Nat) d = ([] : List Nat).contains d := rfl
theorem orc_101 {args : List Arg} {r : Res} (n : Nat) (h : evBody E (orc E) n (101 : Nat) Tryz.f101 args = some r) : fo 101 args = some r := orc_body n rfl rfl Tryz.func101 h
@[simp] theorem kill_102 (r : Nat) : E.kill (102 : Nat) r = (lk [(0, [[0], []]), (1, [[]]), (2, [[], [4], [], [5, 6]]), (3, [[], [7], [], [8, 9]]), (4, [[], [10], [], [11, 12]]), (5, [[], [13], [], [14, 15]]), (6, [[], [16], [17], [], [18, 19]]), (7, [[1], [20], [21], [], [22, 23]]), (8, [[3], [24]])] r).getD [] := rfl
@[simp] theorem live_102 (r : Nat) : E.live (102 : Nat) r = lk [(0, [1, 2], [0, 1, 2, 3, 4, 5, 7, 8, 10, 11, 13, 14, 18, 22, 24]), (1, [1, 2, 3], [0, 1, 2, 3, 4, 5, 7, 8, 10, 11, 13, 14, 18, 22, 24]), (2, [1, 2, 3], [0, 1, 2, 3, 4, 5, 7, 8, 10, 11, 13, 14, 18, 22, 24]), (3, [1, 2, 3], [0, 1, 2, 3, 4, 5, 7, 8, 10, 11, 13, 14, 18, 22, 24]), (4, [1, 2, 3], [0, 1, 2, 3, 4, 5, 7, 8, 10, 11, 13, 14, 18, 22, 24]), (5, [1, 2, 3], [0, 1, 2, 3, 4, 5, 7, 8, 10, 11, 13, 14, 18, 22, 24]), (6, [1, 2, 3], [0, 1, 2, 3, 4, 5, 7, 8, 10, 11, 13, 14, 18, 22, 24]), (7, [2, 3], [0, 1, 2, 3, 4, 5, 7, 8, 10, 11, 13, 14, 18, 22, 24]), (8, [2], [0, 1, 2, 3, 4, 5, 7, 8, 10, 11, 13, 14, 18, 22, 24])] r := rfl
@[simp] theorem pairs_102 (r : Nat) : E.pairs (102 : Nat) r = (lk [] r).getD [] := rfl
@[simp] theorem mode_102 : E.mode (102 : Nat) = [] := rfl
@[simp] theorem keep_102 (d : Nat) : E.keep (102 : Nat) d = ([] : List Nat).contains d := rfl
@[simp] theorem take_102 (d : Nat) : E.take (102 : Nat) d = ([] : List Nat).contains d := rfl
theorem orc_102 {args : List Arg} {r : Res} (n : Nat) (h : evBody E (orc E) n (102 : Nat) Tryz.f102 args = some r) : fo 102 args = some r := orc_body n rfl rfl Tryz.func102 h
@[simp] theorem kill_103 (r : Nat) : E.kill (103 : Nat) r = (lk [(0, [[2]]), (1, [[], [5], [6], [7]]), (2, [[]]), (3, [[], [], [9], [8, 10]]), (5, [[], [], [], [], [16, 17], [18], [14, 15], [19, 20]]), (4, [[], [12], [13]]), (6, [[3], [21]])] r).getD [] := rfl
@[simp] theorem live_103 (r : Nat) : E.live (103 : Nat) r = lk [(0, [0], [0, 4, 13, 16, 17, 18, 19]), (1, [0, 3], [0, 3, 4, 7, 13, 16, 17, 18, 19]), (2, [0, 3, 4], [0, 3, 4, 7, 13, 16, 17, 18, 19]), (3, [0, 3, 4, 11], [0, 3, 4, 7, 11, 13, 16, 17, 18, 19]), (4, [0, 3, 4], [0, 3, 4, 7, 13, 16, 17, 18, 19]), (5, [0, 3, 4], [0, 3, 4, 7, 13, 16, 17, 18, 19]), (6, [2], [0, 2, 3, 4, 7, 13, 16, 17, 18, 19, 21])] r := rfl
@[simp] theorem pairs_103 (r : Nat) : E.pairs (103 : Nat) r = (lk [] r).getD [] := rfl
@[simp] theorem mode_103 : E.mode (103 : Nat) = [] := rfl
@[simp] theorem keep_103 (d : Nat) : E.keep (103 : Nat) d = ([] : List Nat).contains d := rfl
@[simp] theorem take_103 (d : Nat) : E.take (103 : Nat) d = ([] : List Nat).contains d := rfl
theorem orc_103 {args : List Arg} {r : Res} (n : Nat) (h : evBody E (orc E) n (103 : Nat) Tryz.f103 args = some r) : fo 103 args = some r := orc_body n rfl rfl Tryz.func103 h
@[simp] theorem kill_104 (r : Nat) : E.kill (104 : Nat) r = (lk [(0, [[0], [4]]), (1, [[], [11], [12], [13], [], [10], [14], [15]]), (2, [[], [16], [17], [18], [], [20], [21], [19, 22], [23], [], [25], [26], [27], [], [29], [28, 30], [24, 31], [32], [], [34], [35], [36], [37], [], [39], [40], [38, 41], [33, 42], [43]]), (4, [[], [58]]), (5, [[8], [60]]), (6, [[], [61], [62], [63], [64]]), (7, [[], [65]]), (8, [[9], [67]]), (9, [[], [68]]), (10, [[], [71]]), (11, [[2], [72], [73], [74]]), (12, [[69], [76]]), (14, [[2], [89], [5], [6], [90, 91, 92], [93], [94], [95]])] r).getD [] := rfl
@[simp] theorem live_104 (r : Nat) : E.live (104 : Nat) r = lk [(0, [1, 2], [0, 1, 2]), (1, [1, 2, 5, 6], [0, 1, 2, 5, 6, 10, 13, 14, 15]), (2, [1, 2, 5, 6, 7], [0, 1, 2, 5, 6, 7, 10, 13, 14, 15, 18, 19, 22, 23, 24, 27, 28, 30, 31, 32, 33, 37, 38, 41, 42, 43]), (3, [1, 2, 5, 6, 8], [0, 1, 2, 5, 6, 8, 10, 13, 14, 15, 57]), (4, [1, 2, 5, 6, 8, 59], [0, 1, 2, 5, 6, 8, 10, 13, 14, 15, 57, 59]), (5, [1, 4], [1, 4, 8, 9, 57, 60, 64, 67, 74, 88, 95]), (6, [1, 2, 5, 6, 9], [0, 1, 2, 5, 6, 9, 10, 13, 14, 15, 64]), (7, [1, 2, 5, 6, 9, 66], [0, 1, 2, 5, 6, 9, 10, 13, 14, 15, 64, 66]), (8, [1, 4], [1, 4, 8, 9, 57, 60, 64, 67, 74, 88, 95]), (9, [1, 2, 5, 6, 69], [0, 1, 2, 5, 6, 10, 13, 14, 15, 68, 69]), (10, [1, 2, 5, 6, 69, 70], [0, 1, 2, 5, 6, 10, 13, 14, 15, 68, 69, 70, 71]), (11, [1, 4], [1, 4, 8, 9, 57, 60, 64, 67, 74, 88, 95]), (12, [1, 2, 5, 6, 75], [0, 1, 2, 5, 6, 10, 13, 14, 15, 75, 76]), (13, [1, 4], [1, 4, 8, 9, 57, 60, 64, 67, 74, 88, 95]), (14, [1, 4], [1, 4, 8, 9, 57, 60, 64, 67, 74, 88, 95])] r := rfl
@[simp] theorem pairs_104 (r : Nat) : E.pairs (104 : Nat) r = (lk [(3, [(2, 10), (7, 10)]), (13, [(4, 8), (6, 8)])] r).getD [] := rfl
@[simp] theorem mode_104 : E.mode (104 : Nat) = [.R, .M] := rfl
@[simp] theorem keep_104 (d : Nat) : E.keep (104 : Nat) d = ([] : List Nat).contains d := rfl
@[simp] theorem take_104 (d : Nat) : E.take (104 : Nat) d = ([] : List Nat).contains d := rfl
theorem orc_104 {args : List Arg} {r : Res} (n : Nat) (h : evBody E (orc E) n (104 : Nat) Tryz.f104 args = some r) : fo 104 args = some r := orc_body n rfl rfl Tryz.func104 h
@[simp] theorem kill_105 (r : Nat) : E.kill (105 : Nat) r = (lk [(0, [[4]]), (1, [[], [], [10, 11], [12], [13], [14], [15], [], [9], [16], [17]]), (2, [[], [], [18, 19], [20], [21], [22], [23], [24]]), (3, [[], [], [25, 26], [27], [5], [6], [28, 29, 30], [31], [32], [], [], [], [35, 36], [34, 37], [38], [33, 39], [40], [41]]), (4, [[], [42], [43], [7], [45], [44, 46]]), (5, [[8], [48]]), (6, [[0], [1], [49, 50], [51], [52], [53], [54]])] r).getD [] := rfl
@[simp] theorem live_105 (r : Nat) : E.live (105 : Nat) r = lk [(0, [0, 1], [0, 1]), (1, [0, 1, 5, 6], [0, 1, 5, 6, 9, 15, 16, 17]), (2, [0, 1, 5, 6, 7], [0, 1, 5, 6, 7, 9, 15, 16, 17, 24]), (3, [0, 1, 7, 8], [0, 1, 7, 8, 24, 41]), (4, [0, 1, 8, 47], [0, 1, 8, 41, 43, 44, 46, 47]), (5, [4], [4, 8, 41, 48, 54]), (6, [4], [4, 8, 41, 48, 54])] r := rfl
@[simp] theorem pairs_105 (r : Nat) : E.pairs (105 : Nat) r = (lk [] r).getD [] := rfl
@[simp] theorem mode_105 : E.mode (105 : Nat) = [] := rfl
@[simp] theorem keep_105 (d : Nat) : E.keep (105 : Nat) d = ([] : List Nat).contains d := rfl
@[simp] theorem take_105 (d : Nat) : E.take (105 : Nat) d = ([] : List Nat).contains d := rfl
theorem orc_105 {args : List Arg} {r : Res} (n : Nat) (h : evBody E (orc E) n (105 : Nat) Tryz.f105 args = some r) : fo 105 args = some r := orc_body n rfl rfl Tryz.func105 h
@[simp] theorem kill_106 (r : Nat) : E.kill (106 : Nat) r = (lk [(0, [[4]]), (1, [[], [6], [7]]), (2, [[]]), (3, [[0], [9], [], [10]])] r).getD [] := rfl
@[simp] theorem live_106 (r : Nat) : E.live (106 : Nat) r = lk [(0, [0, 1], [0, 1]), (1, [0, 1, 8], [0, 1, 8]), (2, [4], [4, 19]), (3, [1, 5], [1, 5, 10]), (4, [4], [4, 19])] r := rfl
@[simp] theorem pairs_106 (r : Nat) : E.pairs (106 : Nat) r = (lk [(4, [(1, 6)])] r).getD [] := rfl
@[simp] theorem mode_106 : E.mode (106 : Nat) = [] := rfl
@[simp] theorem keep_106 (d : Nat) : E.keep (106 : Nat) d = ([] : List Nat).contains d := rfl
@[simp] theorem take_106 (d : Nat) : E.take (106 : Nat) d = ([] : List Nat).contains d := rfl
theorem orc_106 {args : List Arg} {r : Res} (n : Nat) (h : evBody E (orc E) n (106 : Nat) Tryz.f106 args = some r) : fo 106 args = some r := orc_body n rfl rfl Tryz.func106 h
@[simp] theorem kill_107 (r : Nat) : E.kill (107 : Nat) r = (lk [(0, [[4]]), (1, [[0], [1], [5, 6], [7], [8]])] r).getD [] := rfl
@[simp] theorem live_107 (r : Nat) : E.live (107 : Nat) r = lk [(0, [0, 1], [0, 1]), (1, [4], [4, 8])] r := rfl
@[simp] theorem pairs_107 (r : Nat) : E.pairs (107 : Nat) r = (lk [] r).getD [] := rfl
@[simp] theorem mode_107 : E.mode (107 : Nat) = [] := rfl
@[simp] theorem keep_107 (d : Nat) : E.keep (107 : Nat) d = ([] : List Nat).contains d := rfl
@[simp] theorem take_107 (d : Nat) : E.take (107 : Nat) d = ([] : List Nat).contains d := rfl
theorem orc_107 {args : List Arg} {r : Res} (n : Nat) (h : evBody E (orc E) n (107 : Nat) Tryz.f107 args = some r) : fo 107 args = some r := orc_body n rfl rfl Tryz.func107 h
@[simp] theorem kill_108 (r : Nat) : E.kill (108 : Nat) r = (lk [(0, [[2]]), (1, [[0], [3], [4], [5]])] r).getD [] := rfl
@[simp] theorem live_108 (r : Nat) : E.live (108 : Nat) r = lk [(0, [0], [0]), (1, [2], [2, 5])] r := rfl
@[simp] theorem pairs_108 (r : Nat) : E.pairs (108 : Nat) r = (lk [] r).getD [] := rfl
@[simp] theorem mode_108 : E.mode (108 : Nat) = [] := rfl
@[simp] theorem keep_108 (d : Nat) : E.keep (108 : Nat) d = ([] : List Nat).contains d := rfl
@[simp] theorem take_108 (d : Nat) : E.take (108 : Nat) d = ([] : List Nat).contains d := rfl
theorem orc_108 {args : List Arg} {r : Res} (n : Nat) (h : evBody E (orc E) n (108 : Nat) Tryz.f108 args = some r) : fo 108 args = some r := orc_body n rfl rfl Tryz.func108 h
@[simp] theorem kill_109 (r : Nat) : E.kill (109 : Nat) r = (lk [(0, [[3]]), (1, [[0], [1], [4, 5], [6], [7]])] r).getD [] := rfl
@[simp] theorem live_109 (r : Nat) : E.live (109 : Nat) r = lk [(0, [0, 1], [0, 1]), (1, [3], [3, 7])] r := rfl
@[simp] theorem pairs_109 (r : Nat) : E.pairs (109 : Nat) r = (lk [] r).getD [] := rfl
@[simp] theorem mode_109 : E.mode (109 : Nat) = [] := rfl
@[simp] theorem keep_109 (d : Nat) : E.keep (109 : Nat) d = ([] : List Nat).contains d := rfl
@[simp] theorem take_109 (d : Nat) : E.take (109 : Nat) d = ([] : List Nat).contains d := rfl
theorem orc_109 {args : List Arg} {r : Res} (n : Nat) (h : evBody E (orc E) n (109 : Nat) Tryz.f109 args = some r) : fo 109 args = some r := orc_body n rfl rfl Tryz.func109 h
@[simp] theorem kill_110 (r : Nat) : E.kill (110 : Nat) r = (lk [(0, [[4]]), (2, [[], [], [32, 33], [], [], [35, 36], [34], [37]]), (4, [[]]), (5, [[]]), (6, [[6], [56]]), (7, [[8], [9], [58, 59], [60], [61], [0], [63], [64], [65], [66], [1], [67, 68], [69], [70], [62, 71], [72]]), (8, [[5], [73]]), (9, [[], [76]]), (10, [[], [77]]), (11, [[8], [78]]), (12, [[]]), (13, [[], [81]]), (14, [[], [82], [83], [8], [9], [85, 86], [7], [88], [87, 89], [84, 90]]), (15, [[]]), (16, [[], [93]]), (17, [[8], [94]]), (18, [[]]), (20, [[], [108]]), (21, [[]]), (22, [[74], [110]]), (23, [[]]), (24, [[10], [0], [112], [113], [114], [115], [1], [116, 117], [118], [119], [111, 120], [121]])] r).getD [] := rfl
@[simp] theorem live_110 (r : Nat) : E.live (110 : Nat) r = lk [(0, [0, 1], [0, 1, 11, 12, 13, 14, 15, 16, 17]), (1, [0, 1, 5, 6, 7], [0, 1, 5, 6, 7, 11, 12, 13, 14, 15, 16, 17, 18, 19, 20, 21, 22, 23, 24, 25, 31]), (2, [0, 1, 5, 6, 7, 8, 9], [0, 1, 5, 6, 7, 8, 9, 11, 12, 13, 14, 15, 16, 17, 18, 19, 20, 21, 22, 23, 24, 25, 31, 34, 37]), (3, [0, 1, 5, 6, 7, 8, 9, 55], [0, 1, 5, 6, 7, 8, 9, 11, 12, 13, 14, 15, 16, 17, 18, 19, 20, 21, 22, 23, 24, 25, 31, 34, 37, 39, 40, 42, 43, 53, 54, 55]), (4, [4], [4, 61, 62, 71, 72, 121]), (5, [0, 1, 5, 6, 7, 8, 9, 10], [0, 1, 5, 6, 7, 8, 9, 10, 11, 12, 13, 14, 15, 16, 17, 18, 19, 20, 21, 22, 23, 24, 25, 31, 34, 37, 106]), (6, [0, 1, 5, 7, 8, 9, 10, 57], [0, 1, 5, 7, 8, 9, 10, 11, 12, 13, 14, 15, 16, 17, 31, 34, 37, 57, 106]), (7, [4], [4, 61, 62, 71, 72, 121]), (8, [0, 1, 7, 8, 9, 10, 74], [0, 1, 5, 7, 8, 9, 10, 11, 12, 13, 14, 15, 16, 17, 31, 34, 37, 73, 74, 106]), (9, [0, 1, 7, 8, 9, 10, 74, 75], [0, 1, 5, 7, 8, 9, 10, 11, 12, 13, 14, 15, 16, 17, 31, 34, 37, 73, 74, 75, 76, 77, 106]), (10, [0, 1, 7, 8, 9, 10, 74, 75], [0, 1, 5, 7, 8, 9, 10, 11, 12, 13, 14, 15, 16, 17, 31, 34, 37, 73, 74, 75, 76, 77, 106]), (11, [0, 1, 10, 79], [0, 1, 10, 11, 12, 13, 14, 15, 16, 17, 79, 106]), (12, [4], [4, 61, 62, 71, 72, 121]), (13, [0, 1, 7, 8, 9, 10, 74, 80], [0, 1, 5, 7, 8, 9, 10, 11, 12, 13, 14, 15, 16, 17, 31, 34, 37, 73, 74, 80, 81, 106]), (14, [0, 1, 10, 91], [0, 1, 10, 11, 12, 13, 14, 15, 16, 17, 83, 84, 90, 91, 106]), (15, [4], [4, 61, 62, 71, 72, 121]), (16, [0, 1, 7, 8, 10, 74, 92], [0, 1, 5, 7, 8, 10, 11, 12, 13, 14, 15, 16, 17, 31, 34, 73, 74, 92, 93, 106]), (17, [0, 1, 7, 95], [0, 1, 7, 11, 12, 13, 14, 15, 16, 17, 31, 95]), (18, [4], [4, 61, 62, 71, 72, 121]), (19, [0, 1, 10], [0, 1, 10, 11, 12, 13, 14, 15, 16, 17, 106]), (20, [0, 1, 10, 74, 107], [0, 1, 5, 10, 11, 12, 13, 14, 15, 16, 17, 73, 74, 106, 107, 108]), (21, [0, 1, 10], [0, 1, 10, 11, 12, 13, 14, 15, 16, 17, 106]), (22, [0, 1, 10, 109], [0, 1, 10, 11, 12, 13, 14, 15, 16, 17, 106, 109, 110]), (23, [4], [4, 61, 62, 71, 72, 121]), (24, [4], [4, 61, 62, 71, 72, 121])] r := rfl
@[simp] theorem pairs_110 (r : Nat) : E.pairs (110 : Nat) r = (lk [(1, [(3, 20), (5, 20), (6, 20), (11, 20), (13, 20), (14, 20), (3, 21), (5, 21), (6, 21), (11, 21), (13, 21), (14, 21), (18, 21), (20, 21), (11, 22), (13, 22), (14, 22)])] r).getD [] := rfl
@[simp] theorem mode_110 : E.mode (110 : Nat) = [] := rfl
@[simp] theorem keep_110 (d : Nat) : E.keep (110 : Nat) d = ([] : List Nat).contains d := rfl
@[simp] theorem take_110 (d : Nat) : E.take (110 : Nat) d = ([] : List Nat).contains d := rfl
theorem orc_110 {args : List Arg} {r : Res} (n : Nat) (h : evBody E (orc E) n (110 : Nat) Tryz.f110 args = some r) : fo 110 args = some r := orc_body n rfl rfl Tryz.func110 h
@[simp] theorem kill_111 (r : Nat) : E.kill (111 : Nat) r = (lk [(0, [[0], [1], [4]]), (1, [[], [5], [], [7], [6, 8]]), (2, [[]]), (3, [[], [10], [], [12], [11, 13]]), (4, [[]]), (5, [[], [15], [], [17], [16, 18]]), (6, [[]]), (7, [[], [20], [], [22], [21, 23]]), (8, [[]]), (9, [[], [25], [], [27], [26, 28], [29]]), (10, [[]]), (11, [[2], [31], [3], [33], [32, 34], [35]]), (12, [[]]), (13, [[]])] r).getD [] := rfl
@[simp] theorem live_111 (r : Nat) : E.live (111 : Nat) r = lk [(0, [2, 3], [0, 1, 2, 3]), (1, [2, 3, 9], [0, 1, 2, 3, 9]), (2, [4], [4]), (3, [2, 3, 14], [0, 1, 2, 3, 14]), (4, [4], [4]), (5, [2, 3, 19], [0, 1, 2, 3, 19]), (6, [4], [4]), (7, [2, 3, 24], [0, 1, 2, 3, 24]), (8, [4], [4]), (9, [2, 3, 30], [0, 1, 2, 3, 30]), (10, [4], [4]), (11, [36], [36]), (12, [4], [4]), (13, [4], [4])] r := rfl
@[simp] theorem pairs_111 (r : Nat) : E.pairs (111 : Nat) r = (lk [] r).getD [] := rfl
@[simp] theorem mode_111 : E.mode (111 : Nat) = [] := rfl
@[simp] theorem keep_111 (d : Nat) : E.keep (111 : Nat) d = ([] : List Nat).contains d := rfl
@[simp] theorem take_111 (d : Nat) : E.take (111 : Nat) d = ([] : List Nat).contains d := rfl
theorem orc_111 {args : List Arg} {r : Res} (n : Nat) (h : evBody E (orc E) n (111 : Nat) Tryz.f111 args = some r) : fo 111 args = some r := orc_body n rfl rfl Tryz.func111 h
@[simp] theorem kill_112 (r : Nat) : E.kill (112 : Nat) r = (lk [(0, [[4]]), (1, [[], [6], [], [8], [7, 9]]), (2, [[]]), (3, [[]]), (4, [[], [], [12], [11, 13]]), (7, [[]]), (5, [[], [15], [16]]), (8, [[]])] r).getD [] := rfl
@[simp] theorem live_112 (r : Nat) : E.live (112 : Nat) r = lk [(0, [0, 1], [0, 1]), (1, [0, 1, 10], [0, 1, 10]), (2, [4], [4]), (3, [0, 1, 5], [0, 1, 5, 16]), (4, [0, 1, 5, 14], [0, 1, 5, 14, 16]), (5, [0, 1, 5], [0, 1, 5, 16]), (6, [0, 1, 5, 25], [0, 1, 5, 16, 25]), (7, [4], [4]), (8, [4], [4])] r := rfl
@[simp] theorem pairs_112 (r : Nat) : E.pairs (112 : Nat) r = (lk [] r).getD [] := rfl
@[simp] theorem mode_112 : E.mode (112 : Nat) = [] := rfl
@[simp] theorem keep_112 (d : Nat) : E.keep (112 : Nat) d = ([] : List Nat).contains d := rfl
@[simp] theorem take_112 (d : Nat) : E.take (112 : Nat) d = ([] : List Nat).contains d := rfl
theorem orc_112 {args : List Arg} {r : Res} (n : Nat) (h : evBody E (orc E) n (112 : Nat) Tryz.f112 args = some r) : fo 112 args = some r := orc_body n rfl rfl Tryz.func112 h
@[simp] theorem kill_113 (r : Nat) : E.kill (113 : Nat) r = (lk [(0, [[2]]), (1, [[], [4], [5], [6], [], [8], [9], [7, 10]]), (2, [[]]), (3, [[]]), (4, [[], [], [13], [12, 14]]), (6, [[], [], [18, 19], [20], [21]]), (7, [[]]), (5, [[], [16], [17]]), (8, [[]])] r).getD [] := rfl
@[simp] theorem live_113 (r : Nat) : E.live (113 : Nat) r = lk [(0, [0], [0]), (1, [0, 11], [0, 6, 7, 10, 11]), (2, [2], [2]), (3, [0, 3], [0, 3, 17]), (4, [0, 3, 15], [0, 3, 15, 17]), (5, [0, 3], [0, 3, 17]), (6, [0, 3, 22], [0, 3, 17, 22]), (7, [2], [2]), (8, [2], [2])] r := rfl
@[simp] theorem pairs_113 (r : Nat) : E.pairs (113 : Nat) r = (lk [] r).getD [] := rfl
@[simp] theorem mode_113 : E.mode (113 : Nat) = [] := rfl
@[simp] theorem keep_113 (d : Nat) : E.keep (113 : Nat) d = ([] : List Nat).contains d := rfl
@[simp] theorem take_113 (d : Nat) : E.take (113 : Nat) d = ([] : List Nat).contains d := rfl
theorem orc_113 {args : List Arg} {r : Res} (n : Nat) (h : evBody E (orc E) n (113 : Nat) Tryz.f113 args = some r) : fo 113 args = some r := orc_body n rfl rfl Tryz.func113 h
@[simp] theorem kill_114 (r : Nat) : E.kill (114 : Nat) r = (lk [(0, [[2]]), (1, [[], [6], [7], [8], [0], [10], [9, 11], [12]]), (2, [[]]), (3, [[]]), (4, [[], [], [14], [13, 15]]), (6, [[], [19], [], [], [21, 22], [23], [24], [20, 25], [26], [27]]), (5, [[], [17], [18]]), (7, [[3], [], [29], [30], [4], [32], [33], [31, 34], [28, 35], [36]])] r).getD [] := rfl
@[simp] theorem live_114 (r : Nat) : E.live (114 : Nat) r = lk [(0, [0], [0]), (1, [3], [3, 12]), (2, [3, 4], [3, 4, 12, 27]), (3, [3, 4, 5], [3, 4, 5, 12, 18, 27]), (4, [3, 4, 5, 16], [3, 4, 5, 12, 16, 18, 27]), (5, [3, 4, 5], [3, 4, 5, 12, 18, 27]), (6, [3, 4, 5], [3, 4, 5, 12, 18, 27]), (7, [2], [2, 36])] r := rfl
@[simp] theorem pairs_114 (r : Nat) : E.pairs (114 : Nat) r = (lk [] r).getD [] := rfl
@[simp] theorem mode_114 : E.mode (114 : Nat) = [] := rfl
@[simp] theorem keep_114 (d : Nat) : E.keep (114 : Nat) d = ([] : List Nat).contains d := rfl
@[simp] theorem take_114 (d : Nat) : E.take (114 : Nat) d = ([] : List Nat).contains d := rfl
theorem orc_114 {args : List Arg} {r : Res} (n : Nat) (h : evBody E (orc E) n (114 : Nat) Tryz.f114 args = some r) : fo 114 args = some r := orc_body n rfl rfl Tryz.func114 h
@[simp] theorem kill_115 (r : Nat) : E.kill (115 : Nat) r = (lk [(0, [[2]]), (1, [[], [3], [4], [5], [6], [0], [8], [9], [10], [7, 11], [12], [13]])] r).getD [] := rfl
@[simp] theorem live_115 (r : Nat) : E.live (115 : Nat) r = lk [(0, [0], [0]), (1, [2], [2, 13])] r := rfl
@[simp] theorem pairs_115 (r : Nat) : E.pairs (115 : Nat) r = (lk [] r).getD [] := rfl
@[simp] theorem mode_115 : E.mode (115 : Nat) = [] := rfl
@[simp] theorem keep_115 (d : Nat) : E.keep (115 : Nat) d = ([] : List Nat).contains d := rfl
@[simp] theorem take_115 (d : Nat) : E.take (115 : Nat) d = ([] : List Nat).contains d := rfl
theorem orc_115 {args : List Arg} {r : Res} (n : Nat) (h : evBody E (orc E) n (115 : Nat) Tryz.f115 args = some r) : fo 115 args = some r := orc_body n rfl rfl Tryz.func115 h
@[simp] theorem kill_116 (r : Nat) : E.kill (116 : Nat) r = (lk [(0, [[4]]), (1, [[], [5], [], [7], [6, 8], [9], [0], [], [12], [11, 13], [1], [14, 15], [10, 16], [17]])] r).getD [] := rfl
@[simp] theorem live_116 (r : Nat) : E.live (116 : Nat) r = lk [(0, [0, 1], [0, 1]), (1, [4], [4, 9, 10, 16, 17])] r := rfl
@[simp] theorem pairs_116 (r : Nat) : E.pairs (116 : Nat) r = (lk [] r).getD [] := rfl
@[simp] theorem mode_116 : E.mode (116 : Nat) = [] := rfl
@[simp] theorem keep_116 (d : Nat) : E.keep (116 : Nat) d = ([] : List Nat).contains d := rfl
@[simp] theorem take_116 (d : Nat) : E.take (116 : Nat) d = ([] : List Nat).contains d := rfl
theorem orc_116 {args : List Arg} {r : Res} (n : Nat) (h : evBody E (orc E) n (116 : Nat) Tryz.f116 args = some r) : fo 116 args = some r := orc_body n rfl rfl Tryz.func116 h
@[simp] theorem kill_117 (r : Nat) : E.kill (117 : Nat) r = (lk [(0, [[2]]), (1, [[], [7], [8], [9], [0], [10, 11], [12], []]), (2, [[], [], []]), (3, [[]]), (4, [[], [17], [18]]), (5, [[], [19], [6], [21], [20, 22], [23], [24]]), (6, [[], [25]]), (7, [[3], [], [27], [28], [4], [30], [29, 31], [26, 32], [33]])] r).getD [] := rfl
@[simp] theorem live_117 (r : Nat) : E.live (117 : Nat) r = lk [(0, [0], [0]), (1, [3, 4], [3, 4, 12, 24]), (2, [3, 4, 13, 14, 15], [3, 4, 12, 13, 14, 15, 24, 25]), (3, [3, 4, 13, 14, 15, 16], [3, 4, 12, 13, 14, 15, 16, 24, 25]), (4, [3, 4, 6, 13, 14, 15], [3, 4, 6, 12, 13, 14, 15, 17, 18, 24, 25]), (5, [3, 4, 13, 14, 15], [3, 4, 12, 13, 14, 15, 24, 25]), (6, [3, 4, 13, 14, 15], [3, 4, 12, 13, 14, 15, 24, 25]), (7, [2], [2, 33])] r := rfl
@[simp] theorem pairs_117 (r : Nat) : E.pairs (117 : Nat) r = (lk [] r).getD [] := rfl
@[simp] theorem mode_117 : E.mode (117 : Nat) = [] := rfl
@[simp] theorem keep_117 (d : Nat) : E.keep (117 : Nat) d = ([] : List Nat).contains d := rfl
@[simp] theorem take_117 (d : Nat) : E.take (117 : Nat) d = ([] : List Nat).contains d := rfl
theorem orc_117 {args : List Arg} {r : Res} (n : Nat) (h : evBody E (orc E) n (117 : Nat) Tryz.f117 args = some r) : fo 117 args = some r := orc_body n rfl rfl Tryz.func117 h
@[simp] theorem kill_118 (r : Nat) : E.kill (118 : Nat) r = (lk [(0, [[4]]), (1, [[], [0], [6], [5, 7], [8]]), (2, [[], [9]]), (3, [[]]), (4, [[1], [11]])] r).getD [] := rfl
@[simp] theorem live_118 (r : Nat) : E.live (118 : Nat) r = lk [(0, [0, 1], [0, 1, 8]), (1, [1], [1, 8]), (2, [1, 10], [1, 8, 10]), (3, [4], [1, 4, 8, 11]), (4, [4], [1, 4, 8, 11])] r := rfl
@[simp] theorem pairs_118 (r : Nat) : E.pairs (118 : Nat) r = (lk [] r).getD [] := rfl
@[simp] theorem mode_118 : E.mode (118 : Nat) = [] := rfl
@[simp] theorem keep_118 (d : Nat) : E.keep (118 : Nat) d = ([] : List Nat).contains d := rfl
@[simp] theorem take_118 (d : Nat) : E.take (118 : Nat) d = ([] : List Nat).contains d := rfl
theorem orc_118 {args : List Arg} {r : Res} (n : Nat) (h : evBody E (orc E) n (118 : Nat) Tryz.f118 args = some r) : fo 118 args = some r := orc_body n rfl rfl Tryz.func118 h
@[simp] theorem kill_119 (r : Nat) : E.kill (119 : Nat) r = (lk [(0, [[2]]), (1, [[], [4], [5], [6], [7], [8]]), (2, [[], [9], [10], [11], [12], [13], [], [15], [16], [17], [18], [14, 19], [20], [3], [22], [], [24], [25], [26], [27], [23, 28], [21, 29], [30], [], [32], [33], [34], [35], [36], [0], [38], [39], [40], [41], [42], [37, 43], [31, 44], [45]])] r).getD [] := rfl
@[simp] theorem live_119 (r : Nat) : E.live (119 : Nat) r = lk [(0, [0], [0]), (1, [0, 3], [0, 3, 8]), (2, [2], [2, 3, 8, 13, 14, 19, 20, 21, 22, 23, 28, 29, 30, 31, 36, 37, 43, 44, 45])] r := rfl
@[simp] theorem pairs_119 (r : Nat) : E.pairs (119 : Nat) r = (lk [] r).getD [] := rfl
@[simp] theorem mode_119 : E.mode (119 : Nat) = [] := rfl
@[simp] theorem keep_119 (d : Nat) : E.keep (119 : Nat) d = ([] : List Nat).contains d := rfl
@[simp] theorem take_119 (d : Nat) : E.take (119 : Nat) d = ([] : List Nat).contains d := rfl
theorem orc_119 {args : List Arg} {r : Res} (n : Nat) (h : evBody E (orc E) n (119 : Nat) Tryz.f119 args = some r) : fo 119 args = some r := orc_body n rfl rfl Tryz.func119 h
@[simp] theorem kill_120 (r : Nat) : E.kill (120 : Nat) r = (lk [(0, [[4]]), (1, [[], [6], [7]]), (2, [[], [8]]), (4, [[], [], [], [16, 17], [18], [19], [15, 20]]), (5, [[]]), (3, [[], [], [10, 11], [12], [13], [14]]), (6, [[]])] r).getD [] := rfl
@[simp] theorem live_120 (r : Nat) : E.live (120 : Nat) r = lk [(0, [0, 1], [0, 1]), (1, [0, 1, 5], [0, 1, 5, 7, 10, 11, 12, 13, 14]), (2, [0, 1, 5, 9], [0, 1, 5, 7, 9, 10, 11, 12, 13, 14]), (3, [0, 1, 5], [0, 1, 5, 7, 10, 11, 12, 13, 14]), (4, [0, 1, 5, 21], [0, 1, 5, 7, 10, 11, 12, 13, 14, 21]), (5, [4], [4]), (6, [4], [4])] r := rfl
@[simp] theorem pairs_120 (r : Nat) : E.pairs (120 : Nat) r = (lk [] r).getD [] := rfl
@[simp] theorem mode_120 : E.mode (120 : Nat) = [] := rfl
@[simp] theorem keep_120 (d : Nat) : E.keep (120 : Nat) d = ([] : List Nat).contains d := rfl
@[simp] theorem take_120 (d : Nat) : E.take (120 : Nat) d = ([] : List Nat).contains d := rfl
theorem orc_120 {args : List Arg} {r : Res} (n : Nat) (h : evBody E (orc E) n (120 : Nat) Tryz.f120 args = some r) : fo 120 args = some r := orc_body n rfl rfl Tryz.func120 h
@[simp] theorem kill_121 (r : Nat) : E.kill (121 : Nat) r = (lk [(0, [[4]]), (1, [[]]), (2, [[], [6], [7], [], [9], [8, 10]]), (3, [[], [12], [13]]), (4, [[], [], [14, 15], [16], [17], [18]]), (5, [[5], [19]])] r).getD [] := rfl
@[simp] theorem live_121 (r : Nat) : E.live (121 : Nat) r = lk [(0, [0, 1], [0, 1, 14, 15, 16, 17, 18]), (1, [0, 1, 5], [0, 1, 5, 13, 14, 15, 16, 17, 18]), (2, [0, 1, 5, 11], [0, 1, 5, 7, 8, 10, 11, 13, 14, 15, 16, 17, 18]), (3, [0, 1, 5], [0, 1, 5, 13, 14, 15, 16, 17, 18]), (4, [0, 1, 5], [0, 1, 5, 13, 14, 15, 16, 17, 18]), (5, [4], [4, 5, 13, 19])] r := rfl
@[simp] theorem pairs_121 (r : Nat) : E.pairs (121 : Nat) r = (lk [] r).getD [] := rfl
@[simp] theorem mode_121 : E.mode (121 : Nat) = [] := rfl
@[simp] theorem keep_121 (d : Nat) : E.keep (121 : Nat) d = ([] : List Nat).contains d := rfl
@[simp] theorem take_121 (d : Nat) : E.take (121 : Nat) d = ([] : List Nat).contains d := rfl
theorem orc_121 {args : List Arg} {r : Res} (n : Nat) (h : evBody E (orc E) n (121 : Nat) Tryz.f121 args = some r) : fo 121 args = some r := orc_body n rfl rfl Tryz.func121 h
@[simp] theorem kill_122 (r : Nat) : E.kill (122 : Nat) r = (lk [(0, [[2]]), (1, [[]]), (2, [[], [], [5], [4, 6]]), (4, [[], [], [10, 11], [12], [13], [], [], [15, 16], [17], [14, 18]]), (5, [[]]), (3, [[], [8], [9]]), (6, [[], [20]]), (7, [[]]), (8, [[0], [22], [23]]), (9, [[]]), (10, [[]])] r).getD [] := rfl
@[simp] theorem live_122 (r : Nat) : E.live (122 : Nat) r = lk [(0, [0], [0]), (1, [0, 3], [0, 3, 9]), (2, [0, 3, 7], [0, 3, 7, 9]), (3, [0, 3], [0, 3, 9]), (4, [0, 3, 19], [0, 3, 9, 13, 14, 18, 19]), (5, [2], [2]), (6, [0, 21], [0, 21]), (7, [2], [2]), (8, [24], [24]), (9, [2], [2]), (10, [2], [2])] r := rfl
@[simp] theorem pairs_122 (r : Nat) : E.pairs (122 : Nat) r = (lk [] r).getD [] := rfl
@[simp] theorem mode_122 : E.mode (122 : Nat) = [] := rfl
@[simp] theorem keep_122 (d : Nat) : E.keep (122 : Nat) d = ([] : List Nat).contains d := rfl
@[simp] theorem take_122 (d : Nat) : E.take (122 : Nat) d = ([] : List Nat).contains d := rfl
theorem orc_122 {args : List Arg} {r : Res} (n : Nat) (h : evBody E (orc E) n (122 : Nat) Tryz.f122 args = some r) : fo 122 args = some r := orc_body n rfl rfl Tryz.func122 h
@[simp] theorem kill_123 (r : Nat) : E.kill (123 : Nat) r = (lk [(0, [[2]]), (1, [[], [3], [4], [5]]), (2, [[], [8]]), (3, [[0], [9], [10], [11], [12], [13]]), (4, [[], [15]]), (5, [[], [16]]), (6, [[0], [17], [18], [19], [20], [21]]), (7, [[6], [23]]), (8, [[0], [24], [25], [26], [27], [28]]), (9, [[]])] r).getD [] := rfl
@[simp] theorem live_123 (r : Nat) : E.live (123 : Nat) r = lk [(0, [0], [0]), (1, [0, 6], [0, 3, 4, 5, 6]), (2, [0, 6, 7], [0, 3, 4, 5, 6, 7, 8]), (3, [2], [2, 13, 21, 28]), (4, [0, 6, 14], [0, 3, 4, 5, 6, 14, 15, 16]), (5, [0, 6, 14], [0, 3, 4, 5, 6, 14, 15, 16]), (6, [2], [2, 13, 21, 28]), (7, [0, 22], [0, 22, 23]), (8, [2], [2, 13, 21, 28]), (9, [2], [2, 13, 21, 28])] r := rfl
@[simp] theorem pairs_123 (r : Nat) : E.pairs (123 : Nat) r = (lk [] r).getD [] := rfl
@[simp] theorem mode_123 : E.mode (123 : Nat) = [] := rfl
@[simp] theorem keep_123 (d : Nat) : E.keep (123 : Nat) d = ([] : List Nat).contains d := rfl
@[simp] theorem take_123 (d : Nat) : E.take (123 : Nat) d = ([] : List Nat).contains d := rfl
theorem orc_123 {args : List Arg} {r : Res} (n : Nat) (h : evBody E (orc E) n (123 : Nat) Tryz.f123 args = some r) : fo 123 args = some r := orc_body n rfl rfl Tryz.func123 h
@[simp] theorem kill_124 (r : Nat) : E.kill (124 : Nat) r = (lk [(0, [[2]]), (1, [[], [7], [8], [9], [], [11], [12], [10, 13]]), (2, [[]]), (3, [[]]), (4, [[], [], [16], [15, 17]]), (6, [[], [], [21, 22], [], [23, 24], [25]]), (7, [[], [26]]), (8, [[4], [28]]), (5, [[], [19], [20]]), (9, [[], [], [30], [31], [29, 32], [33]]), (10, [[], [34], [0], [36], [35, 37]]), (11, [[]]), (12, [[]]), (13, [[], [], [40], [39, 41]]), (15, [[], [], [45, 46], [47], [], [48, 49]]), (16, [[]]), (14, [[], [43], [44]]), (17, [[]])] r).getD [] := rfl
@[simp] theorem live_124 (r : Nat) : E.live (124 : Nat) r = lk [(0, [0], [0]), (1, [0, 14], [0, 9, 10, 13, 14]), (2, [2], [2, 4, 25, 28]), (3, [0, 3], [0, 3, 20]), (4, [0, 3, 18], [0, 3, 18, 20]), (5, [0, 3], [0, 3, 20]), (6, [0, 3, 4], [0, 3, 4, 20, 25]), (7, [0, 3, 4, 27], [0, 3, 4, 20, 25, 27]), (8, [2], [2, 4, 25, 28]), (9, [0, 5], [0, 5, 33]), (10, [5, 38], [5, 33, 38]), (11, [2], [2, 4, 25, 28]), (12, [5, 6], [5, 6, 33, 44]), (13, [5, 6, 42], [5, 6, 33, 42, 44]), (14, [5, 6], [5, 6, 33, 44]), (15, [5, 6, 50], [5, 6, 33, 44, 50]), (16, [2], [2, 4, 25, 28]), (17, [2], [2, 4, 25, 28])] r := rfl
@[simp] theorem pairs_124 (r : Nat) : E.pairs (124 : Nat) r = (lk [] r).getD [] := rfl
@[simp] theorem mode_124 : E.mode (124 : Nat) = [] := rfl
@[simp] theorem keep_124 (d : Nat) : E.keep (124 : Nat) d = ([] : List Nat).contains d := rfl
@[simp] theorem take_124 (d : Nat) : E.take (124 : Nat) d = ([] : List Nat).contains d := rfl
theorem orc_124 {args : List Arg} {r : Res} (n : Nat) (h : evBody E (orc E) n (124 : Nat) Tryz.f124 args = some r) : fo 124 args = some r := orc_body n rfl rfl Tryz.func124 h
@[simp] theorem kill_125 (r : Nat) : E.kill (125 : Nat) r = (lk [(0, [[4]]), (1, [[0]]), (2, [[], [7]]), (3, [[1], [8], [9]]), (4, [[], [11]]), (5, [[], [12]]), (6, [[1], [13], [14]]), (7, [[5], [16]]), (8, [[1], [17], [18]]), (9, [[1], [19], [20]])] r).getD [] := rfl
@[simp] theorem live_125 (r : Nat) : E.live (125 : Nat) r = lk [(0, [0, 1], [0, 1]), (1, [1, 5], [0, 1, 5]), (2, [1, 5, 6], [0, 1, 5, 6, 7]), (3, [4], [4, 9, 14, 18, 20]), (4, [1, 5, 10], [0, 1, 5, 10, 11, 12]), (5, [1, 5, 10], [0, 1, 5, 10, 11, 12]), (6, [4], [4, 9, 14, 18, 20]), (7, [1, 15], [1, 15, 16]), (8, [4], [4, 9, 14, 18, 20]), (9, [4], [4, 9, 14, 18, 20])] r := rfl
@[simp] theorem pairs_125 (r : Nat) : E.pairs (125 : Nat) r = (lk [] r).getD [] := rfl
@[simp] theorem mode_125 : E.mode (125 : Nat) = [] := rfl
@[simp] theorem keep_125 (d : Nat) : E.keep (125 : Nat) d = ([] : List Nat).contains d := rfl
@[simp] theorem take_125 (d : Nat) : E.take (125 : Nat) d = ([] : List Nat).contains d := rfl
theorem orc_125 {args : List Arg} {r : Res} (n : Nat) (h : evBody E (orc E) n (125 : Nat) Tryz.f125 args = some r) : fo 125 args = some r := orc_body n rfl rfl Tryz.func125 h
@[simp] theorem kill_126 (r : Nat) : E.kill (126 : Nat) r = (lk [(0, [[4]]), (1, [[], [], [7, 8], [9], [10], [11]]), (2, [[], [12], [13], [], [], [15, 16], [17], [18], [19], [14, 20]]), (3, [[]]), (4, [[0], [5], [22, 23], [24]]), (5, [[], [6], [26], [27], [25, 28], [29], [1], [30, 31], [32]])] r).getD [] := rfl
@[simp] theorem live_126 (r : Nat) : E.live (126 : Nat) r = lk [(0, [0, 1], [0, 1]), (1, [0, 1, 5], [0, 1, 5, 7, 8, 9, 10, 11]), (2, [0, 1, 5, 21], [0, 1, 5, 7, 8, 9, 10, 11, 13, 14, 20, 21]), (3, [4], [4, 32]), (4, [1, 6], [1, 6, 24]), (5, [4], [4, 32])] r := rfl
@[simp] theorem pairs_126 (r : Nat) : E.pairs (126 : Nat) r = (lk [] r).getD [] := rfl
@[simp] theorem mode_126 : E.mode (126 : Nat) = [] := rfl
@[simp] theorem keep_126 (d : Nat) : E.keep (126 : Nat) d = ([] : List Nat).contains d := rfl
@[simp] theorem take_126 (d : Nat) : E.take (126 : Nat) d = ([] : List Nat).contains d := rfl
theorem orc_126 {args : List Arg} {r : Res} (n : Nat) (h : evBody E (orc E) n (126 : Nat) Tryz.f126 args = some r) : fo 126 args = some r := orc_body n rfl rfl Tryz.func126 h
@[simp] theorem kill_127 (r : Nat) : E.kill (127 : Nat) r = (lk [(0, [[2], [3]]), (1, [[], [7], [8]]), (2, [[], [9]]), (3, [[4], [], [11]]), (4, [[0], [13], [14], [], [12], [15], [16]]), (5, [[6], [17]]), (6, [[], []]), (7, [[], [5], [20], [21], [19, 22], [23], [24], []])] r).getD [] := rfl
@[simp] theorem live_127 (r : Nat) : E.live (127 : Nat) r = lk [(0, [0], [0]), (1, [0, 4], [0, 4, 8]), (2, [0, 4, 10], [0, 4, 8, 10]), (3, [2, 3], [2, 3, 4, 5, 8, 11, 12, 14, 15, 19, 22, 23, 24]), (4, [5, 6], [5, 6, 12, 14, 15, 16]), (5, [5, 18], [5, 12, 14, 15, 18]), (6, [2, 3], [2, 3, 4, 5, 8, 11, 12, 14, 15, 19, 22, 23, 24]), (7, [2, 3], [2, 3, 4, 5, 8, 11, 12, 14, 15, 19, 22, 23, 24])] r := rfl
@[simp] theorem pairs_127 (r : Nat) : E.pairs (127 : Nat) r = (lk [] r).getD [] := rfl
@[simp] theorem mode_127 : E.mode (127 : Nat) = [] := rfl
@[simp] theorem keep_127 (d : Nat) : E.keep (127 : Nat) d = ([] : List Nat).contains d := rfl
@[simp] theorem take_127 (d : Nat) : E.take (127 : Nat) d = ([] : List Nat).contains d := rfl
theorem orc_127 {args : List Arg} {r : Res} (n : Nat) (h : evBody E (orc E) n (127 : Nat) Tryz.f127 args = some r) : fo 127 args = some r := orc_body n rfl rfl Tryz.func127 h
@[simp] theorem kill_128 (r : Nat) : E.kill (128 : Nat) r = (lk [(0, [[2]]), (1, [[], [5], [6], [7]]), (2, [[]]), (3, [[], [], [9], [8, 10]]), (5, [[], [], [], [], [16, 17], [18], [19], [14, 15], [20, 21]]), (4, [[], [12], [13]]), (6, [[3], [22]])] r).getD [] := rfl
@[simp] theorem live_128 (r : Nat) : E.live (128 : Nat) r = lk [(0, [0], [0]), (1, [0, 3], [0, 3, 7, 20]), (2, [0, 3, 4], [0, 3, 4, 7, 13, 20]), (3, [0, 3, 4, 11], [0, 3, 4, 7, 11, 13, 20]), (4, [0, 3, 4], [0, 3, 4, 7, 13, 20]), (5, [0, 3, 4], [0, 3, 4, 7, 13, 20]), (6, [2], [2, 3, 7, 20, 22])] r := rfl
@[simp] theorem pairs_128 (r : Nat) : E.pairs (128 : Nat) r = (lk [] r).getD [] := rfl
@[simp] theorem mode_128 : E.mode (128 : Nat) = [] := rfl
@[simp] theorem keep_128 (d : Nat) : E.keep (128 : Nat) d = ([] : List Nat).contains d := rfl
@[simp] theorem take_128 (d : Nat) : E.take (128 : Nat) d = ([] : List Nat).contains d := rfl
theorem orc_128 {args : List Arg} {r : Res} (n : Nat) (h : evBody E (orc E) n (128 : Nat) Tryz.f128 args = some r) : fo 128 args = some r := orc_body n rfl rfl Tryz.func128 h
@[simp] theorem kill_129 (r : Nat) : E.kill (129 : Nat) r = (lk [(0, [[2], [3]]), (1, [[0]]), (2, [[], [6]]), (3, [[], []]), (4, [[], [8]]), (5, [[], [9]]), (6, [[], []]), (7, [[4], [11]]), (8, [[], []]), (9, [[], []])] r).getD [] := rfl
@[simp] theorem live_129 (r : Nat) : E.live (129 : Nat) r = lk [(0, [0], [0]), (1, [4], [0, 4]), (2, [4, 5], [0, 4, 5, 6]), (3, [2, 3], [2, 3]), (4, [4, 7], [0, 4, 7, 8, 9]), (5, [4, 7], [0, 4, 7, 8, 9]), (6, [2, 3], [2, 3]), (7, [10], [10, 11]), (8, [2, 3], [2, 3]), (9, [2, 3], [2, 3])] r := rfl
@[simp] theorem pairs_129 (r : Nat) : E.pairs (129 : Nat) r = (lk [] r).getD [] := rfl
@[simp] theorem mode_129 : E.mode (129 : Nat) = [] := rfl
@[simp] theorem keep_129 (d : Nat) : E.keep (129 : Nat) d = ([] : List Nat).contains d := rfl
@[simp] theorem take_129 (d : Nat) : E.take (129 : Nat) d = ([] : List Nat).contains d := rfl
theorem orc_129 {args : List Arg} {r : Res} (n : Nat) (h : evBody E (orc E) n (129 : Nat) Tryz.f129 args = some r) : fo 129 args = some r := orc_body n rfl rfl Tryz.func129 h
@[simp] theorem kill_130 (r : Nat) : E.kill (130 : Nat) r = (lk [(0, [[4]]), (1, [[], [8], [9], [10], [11], [12]]), (2, [[], [13], [14], [], [16], [15, 17], [18], [], [20], [21], [], [], [24], [23, 25], [26], [22, 27], [19, 28]]), (3, [[]]), (4, [[5], [30], [31]]), (5, [[], [], [32, 33]]), (6, [[], [35], [36], [37], [], [38, 39], [40], [41]]), (7, [[6], [], [42, 43]]), (8, [[]]), (9, [[]]), (10, [[], [45]]), (11, [[], [47], [48], [49], [], [50, 51], [52], [53], [54]]), (13, [[]])] r).getD [] := rfl
@[simp] theorem live_130 (r : Nat) : E.live (130 : Nat) r = lk [(0, [0, 1], [0, 1, 63, 70]), (1, [0, 1, 5], [0, 1, 5, 12, 63, 70]), (2, [0, 1, 5, 29], [0, 1, 5, 12, 14, 15, 17, 18, 19, 21, 22, 27, 28, 29, 63, 70]), (3, [0, 4], [0, 4, 63, 70]), (4, [0, 1, 6], [0, 1, 6, 31, 35, 36, 37, 38, 39, 40, 41, 63, 70]), (5, [0, 1, 6, 34], [0, 1, 6, 31, 34, 35, 36, 37, 38, 39, 40, 41, 63, 70]), (6, [0, 1, 6], [0, 1, 6, 31, 35, 36, 37, 38, 39, 40, 41, 63, 70]), (7, [0, 1, 44], [0, 1, 44, 63, 70]), (8, [0, 4], [0, 4, 63, 70]), (9, [0, 1, 7], [0, 1, 7, 54, 63, 70]), (10, [0, 1, 7, 46], [0, 1, 7, 46, 54, 63, 70]), (11, [0, 1, 7], [0, 1, 7, 54, 63, 70]), (12, [0], [0, 63, 70]), (13, [0, 4], [0, 4, 63, 70])] r := rfl
@[simp] theorem pairs_130 (r : Nat) : E.pairs (130 : Nat) r = (lk [(12, [(5, 7), (7, 12), (8, 12), (5, 14), (7, 14), (8, 14), (12, 14)])] r).getD [] := rfl
@[simp] theorem mode_130 : E.mode (130 : Nat) = [.M, .R] := rfl
@[simp] theorem keep_130 (d : Nat) : E.keep (130 : Nat) d = ([] : List Nat).contains d := rfl
@[simp] theorem take_130 (d : Nat) : E.take (130 : Nat) d = ([] : List Nat).contains d := rfl
theorem orc_130 {args : List Arg} {r : Res} (n : Nat) (h : evBody E (orc E) n (130 : Nat) Tryz.f130 args = some r) : fo 130 args = some r := orc_body n rfl rfl Tryz.func130 h
@[simp] theorem kill_131 (r : Nat) : E.kill (131 : Nat) r = (lk [(0, [[2]])] r).getD [] := rfl
@[simp] theorem live_131 (r : Nat) : E.live (131 : Nat) r = lk [(0, [0], [0]), (1, [0, 2], [0, 2, 3, 4, 5, 6, 12, 13, 14])] r := rfl
@[simp] theorem pairs_131 (r : Nat) : E.pairs (131 : Nat) r = (lk [] r).getD [] := rfl
@[simp] theorem mode_131 : E.mode (131 : Nat) = [.M] := rfl
@[simp] theorem keep_131 (d : Nat) : E.keep (131 : Nat) d = ([] : List Nat).contains d := rfl
@[simp] theorem take_131 (d : Nat) : E.take (131 : Nat) d = ([] : List Nat).contains d := rfl
theorem orc_131 {args : List Arg} {r : Res} (n : Nat) (h : evBody E (orc E) n (131 : Nat) Tryz.f131 args = some r) : fo 131 args = some r := orc_body n rfl rfl Tryz.func131 h
@[simp] theorem kill_132 (r : Nat) : E.kill (132 : Nat) r = (lk [(0, [[2]]), (1, [[], [3], [4], [], [6], [7], [5, 8], [9], [0], [11], [12], [13], [10, 14], [15], [16]])] r).getD [] := rfl
@[simp] theorem live_132 (r : Nat) : E.live (132 : Nat) r = lk [(0, [0], [0]), (1, [2], [2, 16])] r := rfl
@[simp] theorem pairs_132 (r : Nat) : E.pairs (132 : Nat) r = (lk [] r).getD [] := rfl
@[simp] theorem mode_132 : E.mode (132 : Nat) = [] := rfl
@[simp] theorem keep_132 (d : Nat) : E.keep (132 : Nat) d = ([] : List Nat).contains d := rfl
@[simp] theorem take_132 (d : Nat) : E.take (132 : Nat) d = ([] : List Nat).contains d := rfl
theorem orc_132 {args : List Arg} {r : Res} (n : Nat) (h : evBody E (orc E) n (132 : Nat) Tryz.f132 args = some r) : fo 132 args = some r := orc_body n rfl rfl Tryz.func132 h
@[simp] theorem kill_133 (r : Nat) : E.kill (133 : Nat) r = (lk [(0, [[2]]), (1, [[], [12], [13], [14]]), (2, [[]]), (3, [[], [], []]), (4, [[]]), (5, [[], [], [21], [], [20], [22]]), (6, [[4], [3], [23, 24], [25]]), (7, [[], [26]]), (8, [[5], [28]]), (9, [[], [29]]), (10, [[], [30], []]), (11, [[], [], []]), (12, [[]]), (13, [[], [], [36], [], [35], [37]]), (14, [[8], [38], [39], []]), (15, [[], [41], [42], [43]]), (16, [[], [44], [], [46], [10], [47, 48], [45, 49], [50]]), (17, [[], [], [9], [53], [52, 54], [55], [51, 56], [57]]), (18, [[], [59], [60], [61]]), (21, [[], [11], [95], [94, 96], [97]]), (22, [[], [98]]), (23, [[7], [99], [6], [], [102], [103], [101, 104], [105], [0], [107], [106, 108], [100, 109], [110], [111]])] r).getD [] := rfl
@[simp] theorem live_133 (r : Nat) : E.live (133 : Nat) r = lk [(0, [0], [0, 16, 18, 21, 22, 29, 31, 33, 36, 37, 98]), (1, [0, 15], [0, 15, 16, 18, 21, 22, 29, 31, 33, 36, 37, 98]), (2, [2], [2, 5, 25, 28, 111]), (3, [0, 16, 17, 18], [0, 16, 17, 18, 21, 22, 29, 31, 33, 36, 37, 98]), (4, [0, 16, 17, 18, 19], [0, 16, 17, 18, 19, 21, 22, 29, 31, 33, 36, 37, 98]), (5, [0, 3, 4, 16, 17, 18], [0, 3, 4, 16, 17, 18, 20, 21, 22, 29, 31, 33, 36, 37, 98]), (6, [0, 5, 16, 17, 18], [0, 5, 16, 17, 18, 21, 22, 25, 29, 31, 33, 36, 37, 98]), (7, [0, 5, 16, 17, 18, 27], [0, 5, 16, 17, 18, 21, 22, 25, 27, 29, 31, 33, 36, 37, 98]), (8, [2], [2, 5, 25, 28, 111]), (9, [0, 16, 17, 18], [0, 16, 17, 18, 21, 22, 29, 31, 33, 36, 37, 98]), (10, [0, 6, 7], [0, 6, 7, 16, 18, 21, 22, 29, 30, 31, 33, 36, 37, 44, 45, 49, 50, 62, 63, 67, 68, 69, 79, 80, 97, 98]), (11, [0, 6, 7, 31, 32, 33], [0, 6, 7, 16, 18, 21, 22, 29, 30, 31, 32, 33, 36, 37, 44, 45, 49, 50, 62, 63, 67, 68, 69, 79, 80, 97, 98]), (12, [0, 6, 7, 31, 32, 33, 34], [0, 6, 7, 16, 18, 21, 22, 29, 30, 31, 32, 33, 34, 36, 37, 44, 45, 49, 50, 62, 63, 67, 68, 69, 79, 80, 97, 98]), (13, [0, 6, 7, 8, 9, 31, 32, 33], [0, 6, 7, 8, 9, 16, 18, 21, 22, 29, 30, 31, 32, 33, 35, 36, 37, 44, 45, 49, 50, 62, 63, 67, 68, 69, 79, 80, 97, 98]), (14, [0, 6, 7, 9, 10, 11, 31, 32, 33], [0, 6, 7, 9, 10, 11, 16, 18, 21, 22, 29, 30, 31, 32, 33, 36, 37, 39, 44, 45, 49, 50, 57, 62, 63, 67, 68, 69, 79, 80, 93, 97, 98]), (15, [0, 6, 7, 9, 10, 11, 31, 32, 33, 40], [0, 6, 7, 9, 10, 11, 16, 18, 21, 22, 29, 30, 31, 32, 33, 36, 37, 39, 40, 43, 44, 45, 49, 50, 57, 62, 63, 67, 68, 69, 79, 80, 93, 97, 98]), (16, [0, 6, 7, 9, 11, 31, 32, 33], [0, 6, 7, 9, 11, 16, 18, 21, 22, 29, 30, 31, 32, 33, 36, 37, 44, 45, 49, 50, 57, 62, 63, 67, 68, 69, 79, 80, 93, 97, 98]), (17, [0, 6, 7, 11, 31, 32, 33], [0, 6, 7, 11, 16, 18, 21, 22, 29, 30, 31, 32, 33, 36, 37, 44, 45, 49, 50, 57, 62, 63, 67, 68, 69, 79, 80, 93, 97, 98]), (18, [0, 6, 7, 9, 10, 11, 31, 32, 33, 58], [0, 6, 7, 9, 10, 11, 16, 18, 21, 22, 29, 30, 31, 32, 33, 36, 37, 39, 44, 45, 49, 50, 57, 58, 61, 62, 63, 67, 68, 69, 79, 80, 93, 97, 98]), (19, [0, 6, 7, 9, 11, 31, 32, 33], [0, 6, 7, 9, 11, 16, 18, 21, 22, 29, 30, 31, 32, 33, 36, 37, 44, 45, 49, 50, 57, 62, 63, 67, 68, 69, 79, 80, 93, 97, 98]), (20, [0, 6, 7, 11, 31, 32, 33], [0, 6, 7, 11, 16, 18, 21, 22, 29, 30, 31, 32, 33, 36, 37, 44, 45, 49, 50, 57, 62, 63, 67, 68, 69, 79, 80, 93, 97, 98]), (21, [0, 6, 7, 31, 32, 33], [0, 6, 7, 16, 18, 21, 22, 29, 30, 31, 32, 33, 36, 37, 44, 45, 49, 50, 62, 63, 67, 68, 69, 79, 80, 97, 98]), (22, [0, 6, 7, 31, 32, 33], [0, 6, 7, 16, 18, 21, 22, 29, 30, 31, 32, 33, 36, 37, 44, 45, 49, 50, 62, 63, 67, 68, 69, 79, 80, 97, 98]), (23, [2], [2, 5, 25, 28, 111])] r := rfl
@[simp] theorem pairs_133 (r : Nat) : E.pairs (133 : Nat) r = (lk [] r).getD [] := rfl
@[simp] theorem mode_133 : E.mode (133 : Nat) = [] := rfl
@[simp] theorem keep_133 (d : Nat) : E.keep (133 : Nat) d = ([] : List Nat).contains d := rfl
@[simp] theorem take_133 (d : Nat) : E.take (133 : Nat) d = ([] : List Nat).contains d := rfl
theorem orc_133 {args : List Arg} {r : Res} (n : Nat) (h : evBody E (orc E) n (133 : Nat) Tryz.f133 args = some r) : fo 133 args = some r := orc_body n rfl rfl Tryz.func133 h
@[simp] theorem kill_134 (r : Nat) : E.kill (134 : Nat) r = (lk [(0, [[2], [3]]), (1, [[0]]), (2, [[], [6]]), (3, [[], []]), (4, [[], [8]]), (5, [[], [9]]), (6, [[], []]), (7, [[4], [11]]), (8, [[], []]), (9, [[], []])] r).getD [] := rfl
@[simp] theorem live_134 (r : Nat) : E.live (134 : Nat) r = lk [(0, [0], [0]), (1, [4], [0, 4]), (2, [4, 5], [0, 4, 5, 6]), (3, [2, 3], [2, 3]), (4, [4, 7], [0, 4, 7, 8, 9]), (5, [4, 7], [0, 4, 7, 8, 9]), (6, [2, 3], [2, 3]), (7, [10], [10, 11]), (8, [2, 3], [2, 3]), (9, [2, 3], [2, 3])] r := rfl
@[simp] theorem pairs_134 (r : Nat) : E.pairs (134 : Nat) r = (lk [] r).getD [] := rfl
@[simp] theorem mode_134 : E.mode (134 : Nat) = [] := rfl
@[simp] theorem keep_134 (d : Nat) : E.keep (134 : Nat) d = ([] : List Nat).contains d := rfl
@[simp] theorem take_134 (d : Nat) : E.take (134 : Nat) d = ([] : List Nat).contains d := rfl
theorem orc_134 {args : List Arg} {r : Res} (n : Nat) (h : evBody E (orc E) n (134 : Nat) Tryz.f134 args = some r) : fo 134 args = some r := orc_body n rfl rfl Tryz.func134 h
@[simp] theorem kill_135 (r : Nat) : E.kill (135 : Nat) r = (lk [(0, [[4]]), (1, [[], [8]]), (2, [[0], [], []]), (3, [[]]), (4, [[], [], [14], [999999], [13], [15]]), (5, [[], [16], [17], [7], [19], [], [20, 21], [18, 22]]), (6, [[], [6], [25], [24, 26], [27]]), (7, [[], [28]]), (8, [[5], [29]])] r).getD [] := rfl
@[simp] theorem live_135 (r : Nat) : E.live (135 : Nat) r = lk [(0, [0, 1], [0, 1, 9, 11, 14, 15, 28]), (1, [0, 1, 5], [0, 1, 5, 8, 9, 11, 14, 15, 27, 28]), (2, [1, 5, 9, 10, 11], [0, 1, 5, 8, 9, 10, 11, 14, 15, 27, 28]), (3, [1, 5, 9, 10, 11, 12], [0, 1, 5, 8, 9, 10, 11, 12, 14, 15, 27, 28]), (4, [1, 5, 6, 7, 9, 10, 11], [0, 1, 5, 6, 7, 8, 9, 10, 11, 13, 14, 15, 27, 28]), (5, [1, 5, 6, 9, 10, 11, 23], [0, 1, 5, 6, 8, 9, 10, 11, 13, 14, 15, 17, 18, 22, 23, 27, 28]), (6, [1, 5, 9, 10, 11], [0, 1, 5, 8, 9, 10, 11, 14, 15, 27, 28]), (7, [1, 5, 9, 10, 11], [0, 1, 5, 8, 9, 10, 11, 14, 15, 27, 28]), (8, [4], [4, 5, 8, 27, 29])] r := rfl
@[simp] theorem pairs_135 (r : Nat) : E.pairs (135 : Nat) r = (lk [] r).getD [] := rfl
@[simp] theorem mode_135 : E.mode (135 : Nat) = [] := rfl
@[simp] theorem keep_135 (d : Nat) : E.keep (135 : Nat) d = ([] : List Nat).contains d := rfl
@[simp] theorem take_135 (d : Nat) : E.take (135 : Nat) d = ([] : List Nat).contains d := rfl
theorem orc_135 {args : List Arg} {r : Res} (n : Nat) (h : evBody E (orc E) n (135 : Nat) Tryz.f135 args = some r) : fo 135 args = some r := orc_body n rfl rfl Tryz.func135 h
@[simp] theorem kill_136 (r : Nat) : E.kill (136 : Nat) r = (lk [(0, [[4]]), (1, [[], [], [7, 8], [9], [10], [11]]), (2, [[], [12], [13], [], [], [15, 16], [17], [18], [19], [14, 20]]), (3, [[]]), (4, [[0], [5], [22, 23], [24]]), (5, [[1], [], [6], [27], [28], [26, 29], [30], [25, 31], [32]])] r).getD [] := rfl
@[simp] theorem live_136 (r : Nat) : E.live (136 : Nat) r = lk [(0, [0, 1], [0, 1]), (1, [0, 1, 5], [0, 1, 5, 7, 8, 9, 10, 11]), (2, [0, 1, 5, 21], [0, 1, 5, 7, 8, 9, 10, 11, 13, 14, 20, 21]), (3, [4], [4, 32]), (4, [1, 6], [1, 6, 24]), (5, [4], [4, 32])] r := rfl
@[simp] theorem pairs_136 (r : Nat) : E.pairs (136 : Nat) r = (lk [] r).getD [] := rfl
@[simp] theorem mode_136 : E.mode (136 : Nat) = [] := rfl
@[simp] theorem keep_136 (d : Nat) : E.keep (136 : Nat) d = ([] : List Nat).contains d := rfl
@[simp] theorem take_136 (d : Nat) : E.take (136 : Nat) d = ([] : List Nat).contains d := rfl
theorem orc_136 {args : List Arg} {r : Res} (n : Nat) (h : evBody E (orc E) n (136 : Nat) Tryz.f136 args = some r) : fo 136 args = some r := orc_body n rfl rfl Tryz.func136 h
@[simp] theorem kill_137 (r : Nat) : E.kill (137 : Nat) r = (lk [(0, [[]]), (1, [[], [9], [10]]), (2, [[], [11]]), (3, [[3], [13], [14]]), (4, [[], [15]]), (5, [[0], [], []]), (6, [[]]), (7, [[], [20], [], [21]]), (8, [[], [23], [24], [25], [], [22], [26], [27]]), (9, [[], [28], [29], [30], [], [], [33], [32, 34], [35], [], [36, 37], [31, 38], [39], [], [41], [42], [43], [], [6], [46], [45, 47], [48], [7], [49, 50], [44, 51], [40, 52]]), (10, [[], [54]]), (11, [[], [8], [56], [55, 57], [58]]), (12, [[], [59]]), (13, [[], [4], [61], [62], [60, 63], [64], [65], [66]])] r).getD [] := rfl
@[simp] theorem live_137 (r : Nat) : E.live (137 : Nat) r = lk [(0, [0, 2], [0, 2, 3, 4, 10, 13, 14, 15, 16, 18, 20, 21, 54, 58, 59, 60, 63, 64, 65, 66]), (1, [0, 2, 3], [0, 2, 3, 4, 10, 13, 14, 15, 16, 18, 20, 21, 54, 58, 59, 60, 63, 64, 65, 66]), (2, [0, 2, 3, 12], [0, 2, 3, 4, 10, 12, 13, 14, 15, 16, 18, 20, 21, 54, 58, 59, 60, 63, 64, 65, 66]), (3, [2], [2, 3, 4, 10, 13, 14, 15, 54, 58, 60, 63, 64, 65, 66]), (4, [0, 2, 4], [0, 2, 3, 4, 10, 13, 14, 15, 16, 18, 20, 21, 54, 58, 59, 60, 63, 64, 65, 66]), (5, [2, 4, 16, 17, 18], [0, 2, 3, 4, 10, 13, 14, 15, 16, 17, 18, 20, 21, 54, 58, 59, 60, 63, 64, 65, 66]), (6, [2, 4, 16, 17, 18, 19], [0, 2, 3, 4, 10, 13, 14, 15, 16, 17, 18, 19, 20, 21, 54, 58, 59, 60, 63, 64, 65, 66]), (7, [2, 4, 6, 16, 17, 18], [0, 2, 3, 4, 6, 10, 13, 14, 15, 16, 17, 18, 20, 21, 54, 58, 59, 60, 63, 64, 65, 66]), (8, [2, 4, 6, 7, 8, 16, 17, 18], [0, 2, 3, 4, 6, 7, 8, 10, 13, 14, 15, 16, 17, 18, 20, 21, 22, 25, 26, 27, 54, 58, 59, 60, 63, 64, 65, 66]), (9, [2, 4, 8, 16, 17, 18, 53], [0, 2, 3, 4, 8, 10, 13, 14, 15, 16, 17, 18, 20, 21, 22, 25, 27, 30, 31, 38, 39, 40, 43, 44, 51, 52, 53, 54, 58, 59, 60, 63, 64, 65, 66]), (10, [2], [2, 3, 4, 10, 13, 14, 15, 54, 58, 60, 63, 64, 65, 66]), (11, [2, 4, 16, 17, 18], [0, 2, 3, 4, 10, 13, 14, 15, 16, 17, 18, 20, 21, 54, 58, 59, 60, 63, 64, 65, 66]), (12, [2, 4, 16, 17, 18], [0, 2, 3, 4, 10, 13, 14, 15, 16, 17, 18, 20, 21, 54, 58, 59, 60, 63, 64, 65, 66]), (13, [2], [2, 3, 4, 10, 13, 14, 15, 54, 58, 60, 63, 64, 65, 66])] r := rfl
@[simp] theorem pairs_137 (r : Nat) : E.pairs (137 : Nat) r = (lk [] r).getD [] := rfl
@[simp] theorem mode_137 : E.mode (137 : Nat) = [] := rfl
@[simp] theorem keep_137 (d : Nat) : E.keep (137 : Nat) d = ([] : List Nat).contains d := rfl
@[simp] theorem take_137 (d : Nat) : E.take (137 : Nat) d = ([] : List Nat).contains d := rfl
theorem orc_137 {args : List Arg} {r : Res} (n : Nat) (h : evBody E (orc E) n (137 : Nat) Tryz.f137 args = some r) : fo 137 args = some r := orc_body n rfl rfl Tryz.func137 h
@[simp] theorem kill_138 (r : Nat) : E.kill (138 : Nat) r = (lk [(0, [[4]]), (1, [[], [6], []]), (2, [[]]), (3, [[], [10]]), (4, [[], [], [], [12, 13], [14], [11, 15]]), (5, [[5], [17]]), (6, [[], [18]]), (7, [[]])] r).getD [] := rfl
@[simp] theorem live_138 (r : Nat) : E.live (138 : Nat) r = lk [(0, [0, 1], [0, 1]), (1, [0, 1, 7, 8], [0, 1, 7, 8, 18]), (2, [0, 1, 7, 8, 9], [0, 1, 7, 8, 9, 18]), (3, [0, 1, 5, 7, 8], [0, 1, 5, 7, 8, 10, 18]), (4, [0, 1, 5, 7, 8, 16], [0, 1, 5, 7, 8, 10, 16, 18]), (5, [4], [4, 5, 8, 10, 17, 18]), (6, [0, 1, 7, 8], [0, 1, 7, 8, 18]), (7, [4], [4, 5, 8, 10, 17, 18])] r := rfl
@[simp] theorem pairs_138 (r : Nat) : E.pairs (138 : Nat) r = (lk [] r).getD [] := rfl
@[simp] theorem mode_138 : E.mode (138 : Nat) = [] := rfl
@[simp] theorem keep_138 (d : Nat) : E.keep (138 : Nat) d = ([] : List Nat).contains d := rfl
@[simp] theorem take_138 (d : Nat) : E.take (138 : Nat) d = ([] : List Nat).contains d := rfl
theorem orc_138 {args : List Arg} {r : Res} (n : Nat) (h : evBody E (orc E) n (138 : Nat) Tryz.f138 args = some r) : fo 138 args = some r := orc_body n rfl rfl Tryz.func138 h
@[simp] theorem kill_139 (r : Nat) : E.kill (139 : Nat) r = (lk [(0, [[6]]), (1, [[]]), (2, [[1], [], []]), (3, [[]]), (4, [[], [14], [15]]), (5, [[], [16], [17], [18], [19], [9], [20, 21], [22], [], [23, 24]]), (6, [[], [26], [27]]), (7, [[], [28]]), (8, [[7], [29]])] r).getD [] := rfl
@[simp] theorem live_139 (r : Nat) : E.live (139 : Nat) r = lk [(0, [0, 1, 2], [0, 1, 2]), (1, [0, 1, 2, 7], [0, 1, 2, 7, 27]), (2, [0, 2, 7, 10, 11, 12], [0, 1, 2, 7, 10, 11, 12, 27, 28]), (3, [0, 2, 7, 10, 11, 12, 13], [0, 1, 2, 7, 10, 11, 12, 13, 27, 28]), (4, [0, 2, 7, 9, 10, 11, 12], [0, 1, 2, 7, 9, 10, 11, 12, 14, 15, 27, 28]), (5, [0, 2, 7, 10, 11, 12, 25], [0, 1, 2, 7, 10, 11, 12, 25, 27, 28]), (6, [0, 2, 7, 10, 11, 12], [0, 1, 2, 7, 10, 11, 12, 27, 28]), (7, [0, 2, 7, 10, 11, 12], [0, 1, 2, 7, 10, 11, 12, 27, 28]), (8, [6], [6, 7, 27, 29])] r := rfl
@[simp] theorem pairs_139 (r : Nat) : E.pairs (139 : Nat) r = (lk [] r).getD [] := rfl
@[simp] theorem mode_139 : E.mode (139 : Nat) = [] := rfl
@[simp] theorem keep_139 (d : Nat) : E.keep (139 : Nat) d = ([] : List Nat).contains d := rfl
@[simp] theorem take_139 (d : Nat) : E.take (139 : Nat) d = ([] : List Nat).contains d := rfl
theorem orc_139 {args : List Arg} {r : Res} (n : Nat) (h : evBody E (orc E) n (139 : Nat) Tryz.f139 args = some r) : fo 139 args = some r := orc_body n rfl rfl Tryz.func139 h
@[simp] theorem kill_140 (r : Nat) : E.kill (140 : Nat) r = (lk [(0, [[4]]), (1, [[], [6], [], [8], [7, 9]]), (2, [[]]), (3, [[]]), (4, [[], [], [12], [11, 13]]), (7, [[]]), (5, [[], [15], [16]]), (8, [[]])] r).getD [] := rfl
@[simp] theorem live_140 (r : Nat) : E.live (140 : Nat) r = lk [(0, [0, 1], [0, 1]), (1, [0, 1, 10], [0, 1, 10]), (2, [4], [4]), (3, [0, 1, 5], [0, 1, 5, 16]), (4, [0, 1, 5, 14], [0, 1, 5, 14, 16]), (5, [0, 1, 5], [0, 1, 5, 16]), (6, [0, 1, 5, 26], [0, 1, 5, 16, 26]), (7, [4], [4]), (8, [4], [4])] r := rfl
@[simp] theorem pairs_140 (r : Nat) : E.pairs (140 : Nat) r = (lk [] r).getD [] := rfl
@[simp] theorem mode_140 : E.mode (140 : Nat) = [] := rfl
@[simp] theorem keep_140 (d : Nat) : E.keep (140 : Nat) d = ([] : List Nat).contains d := rfl
@[simp] theorem take_140 (d : Nat) : E.take (140 : Nat) d = ([] : List Nat).contains d := rfl
theorem orc_140 {args : List Arg} {r : Res} (n : Nat) (h : evBody E (orc E) n (140 : Nat) Tryz.f140 args = some r) : fo 140 args = some r := orc_body n rfl rfl Tryz.func140 h
@[simp] theorem kill_141 (r : Nat) : E.kill (141 : Nat) r = (lk [(0, [[2]]), (1, [[], [3], [4], [0], [6], [5, 7], [8]])] r).getD [] := rfl
@[simp] theorem live_141 (r : Nat) : E.live (141 : Nat) r = lk [(0, [0], [0]), (1, [2], [2, 4, 5, 7, 8])] r := rfl
@[simp] theorem pairs_141 (r : Nat) : E.pairs (141 : Nat) r = (lk [] r).getD [] := rfl
@[simp] theorem mode_141 : E.mode (141 : Nat) = [] := rfl
@[simp] theorem keep_141 (d : Nat) : E.keep (141 : Nat) d = ([] : List Nat).contains d := rfl
@[simp] theorem take_141 (d : Nat) : E.take (141 : Nat) d = ([] : List Nat).contains d := rfl
theorem orc_141 {args : List Arg} {r : Res} (n : Nat) (h : evBody E (orc E) n (141 : Nat) Tryz.f141 args = some r) : fo 141 args = some r := orc_body n rfl rfl Tryz.func141 h
@[simp] theorem kill_142 (r : Nat) : E.kill (142 : Nat) r = (lk [(0, [[4]]), (1, [[], [6], []]), (2, [[]]), (3, [[], [10]]), (4, [[], [], [5], [12, 13], [11, 14], [15]]), (5, [[]]), (6, [[], [17]]), (7, [[]])] r).getD [] := rfl
@[simp] theorem live_142 (r : Nat) : E.live (142 : Nat) r = lk [(0, [0, 1], [0, 1]), (1, [0, 1, 7, 8], [0, 1, 7, 8, 17]), (2, [0, 1, 7, 8, 9], [0, 1, 7, 8, 9, 17]), (3, [0, 1, 5, 7, 8], [0, 1, 5, 7, 8, 10, 17]), (4, [0, 1, 7, 8, 16], [0, 1, 7, 8, 16, 17]), (5, [4], [4]), (6, [0, 1, 7, 8], [0, 1, 7, 8, 17]), (7, [4], [4])] r := rfl
@[simp] theorem pairs_142 (r : Nat) : E.pairs (142 : Nat) r = (lk [] r).getD [] := rfl
@[simp] theorem mode_142 : E.mode (142 : Nat) = [] := rfl
@[simp] theorem keep_142 (d : Nat) : E.keep (142 : Nat) d = ([] : List Nat).contains d := rfl
@[simp] theorem take_142 (d : Nat) : E.take (142 : Nat) d = ([] : List Nat).contains d := rfl
theorem orc_142 {args : List Arg} {r : Res} (n : Nat) (h : evBody E (orc E) n (142 : Nat) Tryz.f142 args = some r) : fo 142 args = some r := orc_body n rfl rfl Tryz.func142 h
@[simp] theorem kill_143 (r : Nat) : E.kill (143 : Nat) r = (lk [(0, [[2]]), (1, [[], [3], [4], [0], [6], [5, 7], [8]])] r).getD [] := rfl
@[simp] theorem live_143 (r : Nat) : E.live (143 : Nat) r = lk [(0, [0], [0]), (1, [2], [2, 4, 5, 7, 8])] r := rfl
@[simp] theorem pairs_143 (r : Nat) : E.pairs (143 : Nat) r = (lk [] r).getD [] := rfl
@[simp] theorem mode_143 : E.mode (143 : Nat) = [] := rfl
@[simp] theorem keep_143 (d : Nat) : E.keep (143 : Nat) d = ([] : List Nat).contains d := rfl
@[simp] theorem take_143 (d : Nat) : E.take (143 : Nat) d = ([] : List Nat).contains d := rfl
theorem orc_143 {args : List Arg} {r : Res} (n : Nat) (h : evBody E (orc E) n (143 : Nat) Tryz.f143 args = some r) : fo 143 args = some r := orc_body n rfl rfl Tryz.func143 h
@[simp] theorem kill_144 (r : Nat) : E.kill (144 : Nat) r = (lk [(0, [[4]]), (1, [[0], [5], [1], [7], [6, 8], [9]])] r).getD [] := rfl
@[simp] theorem live_144 (r : Nat) : E.live (144 : Nat) r = lk [(0, [0, 1], [0, 1]), (1, [4], [4, 9])] r := rfl
@[simp] theorem pairs_144 (r : Nat) : E.pairs (144 : Nat) r = (lk [] r).getD [] := rfl
@[simp] theorem mode_144 : E.mode (144 : Nat) = [] := rfl
@[simp] theorem keep_144 (d : Nat) : E.keep (144 : Nat) d = ([] : List Nat).contains d := rfl
@[simp] theorem take_144 (d : Nat) : E.take (144 : Nat) d = ([] : List Nat).contains d := rfl
theorem orc_144 {args : List Arg} {r : Res} (n : Nat) (h : evBody E (orc E) n (144 : Nat) Tryz.f144 args = some r) : fo 144 args = some r := orc_body n rfl rfl Tryz.func144 h
@[simp] theorem kill_145 (r : Nat) : E.kill (145 : Nat) r = (lk [(0, [[4]]), (1, [[], [6], [7], [8], [9], [10]]), (2, [[]]), (3, [[], [12], [13], [14], [15], [16]]), (4, [[], [17], [], [19], [20], [21], [22], [23], [], [25], [26], [27], [28], [24, 29], [18, 30], [31], [], [33], [34], [], [36], [37], [38], [39], [35, 40], [32, 41], [42], [], [44], [45], [46], [47], [48], [], [50], [51], [52], [53], [49, 54], [43, 55]]), (5, [[]]), (6, [[], [57], [58], [59], [60], [61], [], [63], [64], [65], [66], [67], [62, 68], [69], [], [71], [72], [73], [74], [75], [], [77], [78], [79], [80], [81], [76, 82], [70, 83]]), (7, [[]]), (8, [[5], [85], [86], [], [88], [89], [90], [], [92], [91, 93], [94], [87, 95], [96], [], [98], [99], [100], [101], [102], [0], [104], [105], [106], [1], [108], [107, 109], [110], [103, 111], [97, 112]]), (9, [[]]), (10, [[]])] r).getD [] := rfl
@[simp] theorem live_145 (r : Nat) : E.live (145 : Nat) r = lk [(0, [0, 1], [0, 1]), (1, [0, 1, 11], [0, 1, 11]), (2, [4], [4]), (3, [0, 1, 5], [0, 1, 5, 16]), (4, [0, 1, 5, 56], [0, 1, 5, 16, 17, 18, 23, 24, 29, 30, 31, 32, 34, 35, 40, 41, 42, 43, 48, 49, 54, 55, 56]), (5, [4], [4]), (6, [0, 1, 5, 84], [0, 1, 5, 16, 61, 62, 68, 69, 70, 75, 76, 82, 83, 84]), (7, [4], [4]), (8, [113], [86, 87, 95, 96, 97, 102, 103, 111, 112, 113]), (9, [4], [4]), (10, [4], [4])] r := rfl
@[simp] theorem pairs_145 (r : Nat) : E.pairs (145 : Nat) r = (lk [] r).getD [] := rfl
@[simp] theorem mode_145 : E.mode (145 : Nat) = [] := rfl
@[simp] theorem keep_145 (d : Nat) : E.keep (145 : Nat) d = ([] : List Nat).contains d := rfl
@[simp] theorem take_145 (d : Nat) : E.take (145 : Nat) d = ([] : List Nat).contains d := rfl
theorem orc_145 {args : List Arg} {r : Res} (n : Nat) (h : evBody E (orc E) n (145 : Nat) Tryz.f145 args = some r) : fo 145 args = some r := orc_body n rfl rfl Tryz.func145 h
@[simp] theorem kill_146 (r : Nat) : E.kill (146 : Nat) r = (lk [(0, [[6]]), (1, [[], [7], [8]]), (2, [[2], [10]]), (3, [[], [], [11, 12], [13], [14], [15]]), (4, [[], [], [], [18, 19], [20], [21], [], [17, 22, 23], [24]]), (5, [[], [], [25, 26], [27], [28], [29]]), (6, [[], [0], [], [32, 33], [34], [35], [], [31, 36, 37], [38]]), (7, [[2], [1], [40], [39, 41], [42]])] r).getD [] := rfl
@[simp] theorem live_146 (r : Nat) : E.live (146 : Nat) r = lk [(0, [0, 1, 2], [0, 1, 2, 24, 38]), (1, [0, 1, 2, 9], [0, 1, 2, 9, 24, 38]), (2, [6], [2, 6, 10, 24, 38, 42]), (3, [0, 1, 2, 16], [0, 1, 2, 16, 24, 38]), (4, [0, 1, 2], [0, 1, 2, 24, 38]), (5, [0, 1, 2, 30], [0, 1, 2, 24, 30, 38]), (6, [1, 2], [1, 2, 24, 38]), (7, [6], [2, 6, 10, 24, 38, 42])] r := rfl
@[simp] theorem pairs_146 (r : Nat) : E.pairs (146 : Nat) r = (lk [] r).getD [] := rfl
@[simp] theorem mode_146 : E.mode (146 : Nat) = [.R, .R, .V] := rfl
@[simp] theorem keep_146 (d : Nat) : E.keep (146 : Nat) d = ([24, 38] : List Nat).contains d := rfl
@[simp] theorem take_146 (d : Nat) : E.take (146 : Nat) d = ([] : List Nat).contains d := rfl
theorem orc_146 {args : List Arg} {r : Res} (n : Nat) (h : evBody E (orc E) n (146 : Nat) Tryz.f146 args = some r) : fo 146 args = some r := orc_body n rfl rfl Tryz.func146 h
@[simp] theorem kill_147 (r : Nat) : E.kill (147 : Nat) r = (lk [(0, [[2], [3]]), (1, [[], [9]]), (2, [[]]), (3, [[], [], [11], [10, 12]]), (5, [[], [], [16, 17], [18], [], [19]]), (6, [[]]), (7, [[]]), (8, [[], [20], [21], [22], [], [24], [25], [23, 26]]), (9, [[]]), (10, [[], [28], [29]]), (11, [[]]), (12, [[], [31], [32], [33], [], [], [36], [35, 37], [38], [], [39, 40], [34, 41], [42], [], [44], [45], [46], [], [6], [49], [48, 50], [51], [7], [52, 53], [47, 54], [43, 55]]), (13, [[], []]), (14, [[], [8], [58], [57, 59], [60]]), (4, [[], [14], [15]]), (15, [[4], [61], []])] r).getD [] := rfl
@[simp] theorem live_147 (r : Nat) : E.live (147 : Nat) r = lk [(0, [0], [0, 5, 15, 16, 17, 18, 19]), (1, [0, 4], [0, 4, 5, 9, 15, 16, 17, 18, 19, 60]), (2, [0, 4, 5], [0, 4, 5, 9, 15, 16, 17, 18, 19, 60]), (3, [0, 4, 5, 13], [0, 4, 5, 9, 13, 15, 16, 17, 18, 19, 60]), (4, [0, 4, 5], [0, 4, 5, 9, 15, 16, 17, 18, 19, 60]), (5, [0, 4, 5, 6], [0, 4, 5, 6, 9, 15, 16, 17, 18, 19, 60]), (6, [0, 4, 5, 6, 7], [0, 4, 5, 6, 7, 9, 15, 16, 17, 18, 19, 60]), (7, [0, 4, 5, 6, 7, 8], [0, 4, 5, 6, 7, 8, 9, 15, 16, 17, 18, 19, 60]), (8, [0, 4, 5, 6, 7, 8, 27], [0, 4, 5, 6, 7, 8, 9, 15, 16, 17, 18, 19, 22, 23, 26, 27, 60]), (9, [0, 4, 5, 6, 7, 8], [0, 4, 5, 6, 7, 8, 9, 15, 16, 17, 18, 19, 60]), (10, [0, 4, 5, 6, 7, 8, 30], [0, 4, 5, 6, 7, 8, 9, 15, 16, 17, 18, 19, 30, 60]), (11, [0, 4, 5, 6, 7, 8], [0, 4, 5, 6, 7, 8, 9, 15, 16, 17, 18, 19, 60]), (12, [0, 4, 5, 8, 56], [0, 4, 5, 8, 9, 15, 16, 17, 18, 19, 33, 34, 41, 42, 43, 46, 47, 54, 55, 56, 60]), (13, [2, 3], [2, 3, 4, 9, 60, 61]), (14, [0, 4, 5], [0, 4, 5, 9, 15, 16, 17, 18, 19, 60]), (15, [2, 3], [2, 3, 4, 9, 60, 61])] r := rfl
@[simp] theorem pairs_147 (r : Nat) : E.pairs (147 : Nat) r = (lk [] r).getD [] := rfl
@[simp] theorem mode_147 : E.mode (147 : Nat) = [] := rfl
@[simp] theorem keep_147 (d : Nat) : E.keep (147 : Nat) d = ([] : List Nat).contains d := rfl
@[simp] theorem take_147 (d : Nat) : E.take (147 : Nat) d = ([] : List Nat).contains d := rfl
theorem orc_147 {args : List Arg} {r : Res} (n : Nat) (h : evBody E (orc E) n (147 : Nat) Tryz.f147 args = some r) : fo 147 args = some r := orc_body n rfl rfl Tryz.func147 h
@[simp] theorem kill_148 (r : Nat) : E.kill (148 : Nat) r = (lk [(0, [[0], []]), (1, [[]]), (2, [[], [4], [], [5, 6]]), (3, [[], [7], [], [8, 9]]), (4, [[], [10], [], [11, 12]]), (5, [[1], [13], [], [14, 15]]), (6, [[3], [16]])] r).getD [] := rfl
@[simp] theorem live_148 (r : Nat) : E.live (148 : Nat) r = lk [(0, [1, 2], [0, 1, 2, 3, 4, 5, 7, 8, 10, 11, 13, 14, 16]), (1, [1, 2, 3], [0, 1, 2, 3, 4, 5, 7, 8, 10, 11, 13, 14, 16]), (2, [1, 2, 3], [0, 1, 2, 3, 4, 5, 7, 8, 10, 11, 13, 14, 16]), (3, [1, 2, 3], [0, 1, 2, 3, 4, 5, 7, 8, 10, 11, 13, 14, 16]), (4, [1, 2, 3], [0, 1, 2, 3, 4, 5, 7, 8, 10, 11, 13, 14, 16]), (5, [2, 3], [0, 1, 2, 3, 4, 5, 7, 8, 10, 11, 13, 14, 16]), (6, [2], [0, 1, 2, 3, 4, 5, 7, 8, 10, 11, 13, 14, 16])] r := rfl
@[simp] theorem pairs_148 (r : Nat) : E.pairs (148 : Nat) r = (lk [] r).getD [] := rfl
@[simp] theorem mode_148 : E.mode (148 : Nat) = [] := rfl
@[simp] theorem keep_148 (d : Nat) : E.keep (148 : Nat) d = ([] : List Nat).contains d := rfl
@[simp] theorem take_148 (d : Nat) : E.take (148 : Nat) d = ([] : List Nat).contains d := rfl
theorem orc_148 {args : List Arg} {r : Res} (n : Nat) (h : evBody E (orc E) n (148 : Nat) Tryz.f148 args = some r) : fo 148 args = some r := orc_body n rfl rfl Tryz.func148 h
@[simp] theorem kill_149 (r : Nat) : E.kill (149 : Nat) r = (lk [(0, [[2]]), (1, [[], [3], [4], [0], [6], [5, 7], [8]])] r).getD [] := rfl
@[simp] theorem live_149 (r : Nat) : E.live (149 : Nat) r = lk [(0, [0], [0]), (1, [2], [2, 4, 5, 7, 8])] r := rfl
@[simp] theorem pairs_149 (r : Nat) : E.pairs (149 : Nat) r = (lk [] r).getD [] := rfl
@[simp] theorem mode_149 : E.mode (149 : Nat) = [] := rfl
@[simp] theorem keep_149 (d : Nat) : E.keep (149 : Nat) d = ([] : List Nat).contains d := rfl
@[simp] theorem take_149 (d : Nat) : E.take (149 : Nat) d = ([] : List Nat).contains d := rfl
theorem orc_149 {args : List Arg} {r : Res} (n : Nat) (h : evBody E (orc E) n (149 : Nat) Tryz.f149 args = some r) : fo 149 args = some r := orc_body n rfl rfl Tryz.func149 h
@[simp] theorem kill_150 (r : Nat) : E.kill (150 : Nat) r = (lk [(0, [[0], [4]]), (1, [[], [7], [8], [9], [], [11], [12], [10, 13], [14]]), (2, [[]]), (3, [[], [15], [16]]), (4, [[]]), (6, [[], [36], [37], [38]]), (8, [[], [58], [59], [60]]), (10, [[]])] r).getD [] := rfl
@[simp] theorem live_150 (r : Nat) : E.live (150 : Nat) r = lk [(0, [1, 2], [0, 1, 2]), (1, [1, 2, 6], [0, 1, 2, 6, 9, 10, 13, 14]), (2, [2, 5], [0, 2, 5]), (3, [2, 5, 17], [0, 2, 5, 17]), (4, [2, 5], [0, 2, 5]), (5, [4], [4, 34, 56, 81]), (6, [1, 2, 35], [0, 1, 2, 35, 38]), (7, [4], [4, 34, 56, 81]), (8, [1, 2, 57], [0, 1, 2, 57, 60]), (9, [4], [4, 34, 56, 81]), (10, [4], [4, 34, 56, 81])] r := rfl
@[simp] theorem pairs_150 (r : Nat) : E.pairs (150 : Nat) r = (lk [(5, [(8, 10)]), (7, [(8, 10)]), (9, [(3, 5)])] r).getD [] := rfl
@[simp] theorem mode_150 : E.mode (150 : Nat) = [] := rfl
@[simp] theorem keep_150 (d : Nat) : E.keep (150 : Nat) d = ([] : List Nat).contains d := rfl
@[simp] theorem take_150 (d : Nat) : E.take (150 : Nat) d = ([] : List Nat).contains d := rfl
theorem orc_150 {args : List Arg} {r : Res} (n : Nat) (h : evBody E (orc E) n (150 : Nat) Tryz.f150 args = some r) : fo 150 args = some r := orc_body n rfl rfl Tryz.func150 h
@[simp] theorem kill_151 (r : Nat) : E.kill (151 : Nat) r = (lk [(0, [[2]]), (1, [[0], [3], [4]])] r).getD [] := rfl
@[simp] theorem live_151 (r : Nat) : E.live (151 : Nat) r = lk [(0, [0], [0]), (1, [2], [2, 4])] r := rfl
@[simp] theorem pairs_151 (r : Nat) : E.pairs (151 : Nat) r = (lk [] r).getD [] := rfl
@[simp] theorem mode_151 : E.mode (151 : Nat) = [] := rfl
@[simp] theorem keep_151 (d : Nat) : E.keep (151 : Nat) d = ([] : List Nat).contains d := rfl
@[simp] theorem take_151 (d : Nat) : E.take (151 : Nat) d = ([] : List Nat).contains d := rfl
theorem orc_151 {args : List Arg} {r : Res} (n : Nat) (h : evBody E (orc E) n (151 : Nat) Tryz.f151 args = some r) : fo 151 args = some r := orc_body n rfl rfl Tryz.func151 h
@[simp] theorem kill_152 (r : Nat) : E.kill (152 : Nat) r = (lk [(0, [[2], [3]]), (1, [[], [5], [6]]), (2, [[], []]), (3, [[0], [8], [9]]), (4, [[], []]), (5, [[], []])] r).getD [] := rfl
@[simp] theorem live_152 (r : Nat) : E.live (152 : Nat) r = lk [(0, [0], [0]), (1, [0, 4], [0, 4, 6]), (2, [2, 3], [2, 3]), (3, [7], [7, 9]), (4, [2, 3], [2, 3]), (5, [2, 3], [2, 3])] r := rfl
@[simp] theorem pairs_152 (r : Nat) : E.pairs (152 : Nat) r = (lk [] r).getD [] := rfl
@[simp] theorem mode_152 : E.mode (152 : Nat) = [] := rfl
@[simp] theorem keep_152 (d : Nat) : E.keep (152 : Nat) d = ([] : List Nat).contains d := rfl
@[simp] theorem take_152 (d : Nat) : E.take (152 : Nat) d = ([] : List Nat).contains d := rfl
theorem orc_152 {args : List Arg} {r : Res} (n : Nat) (h : evBody E (orc E) n (152 : Nat) Tryz.f152 args = some r) : fo 152 args = some r := orc_body n rfl rfl Tryz.func152 h
@[simp] theorem kill_153 (r : Nat) : E.kill (153 : Nat) r = (lk [(0, [[0], [1], [4]]), (1, [[], [5], [], [7], [6, 8]]), (2, [[]]), (3, [[], [10], [], [12], [11, 13]]), (4, [[]]), (5, [[], [15], [], [17], [16, 18]]), (6, [[]]), (7, [[2], [20], [3], [22], [21, 23]]), (8, [[]]), (9, [[]])] r).getD [] := rfl
@[simp] theorem live_153 (r : Nat) : E.live (153 : Nat) r = lk [(0, [2, 3], [0, 1, 2, 3]), (1, [2, 3, 9], [0, 1, 2, 3, 9]), (2, [4], [4]), (3, [2, 3, 14], [0, 1, 2, 3, 14]), (4, [4], [4]), (5, [2, 3, 19], [0, 1, 2, 3, 19]), (6, [4], [4]), (7, [24], [24]), (8, [4], [4]), (9, [4], [4])] r := rfl
@[simp] theorem pairs_153 (r : Nat) : E.pairs (153 : Nat) r = (lk [] r).getD [] := rfl
@[simp] theorem mode_153 : E.mode (153 : Nat) = [] := rfl
@[simp] theorem keep_153 (d : Nat) : E.keep (153 : Nat) d = ([] : List Nat).contains d := rfl
@[simp] theorem take_153 (d : Nat) : E.take (153 : Nat) d = ([] : List Nat).contains d := rfl
theorem orc_153 {args : List Arg} {r : Res} (n : Nat) (h : evBody E (orc E) n (153 : Nat) Tryz.f153 args = some r) : fo 153 args = some r := orc_body n rfl rfl Tryz.func153 h
@[simp] theorem kill_154 (r : Nat) : E.kill (154 : Nat) r = (lk [(0, [[2]]), (1, [[0], [3], [4]])] r).getD [] := rfl
@[simp] theorem live_154 (r : Nat) : E.live (154 : Nat) r = lk [(0, [0], [0]), (1, [2], [2, 4])] r := rfl
@[simp] theorem pairs_154 (r : Nat) : E.pairs (154 : Nat) r = (lk [] r).getD [] := rfl
@[simp] theorem mode_154 : E.mode (154 : Nat) = [] := rfl
@[simp] theorem keep_154 (d : Nat) : E.keep (154 : Nat) d = ([] : List Nat).contains d := rfl
@[simp] theorem take_154 (d : Nat) : E.take (154 : Nat) d = ([] : List Nat).contains d := rfl
theorem orc_154 {args : List Arg} {r : Res} (n : Nat) (h : evBody E (orc E) n (154 : Nat) Tryz.f154 args = some r) : fo 154 args = some r := orc_body n rfl rfl Tryz.func154 h
end Go.TM.Lr
